/- Closures, append: each as one operation of a region. -/
import Derived.Test.YthkckbidcpmckaaGreatDoorFzQ
set_option linter.all false
namespace Go.Fx
section
variable {P:Program} {GE:Glob} {nt:Nat} {T:Nat->TD} {β:Type} {K:SV->St->Option β} {r:β} {o:Oper} {s:St}
theorem Inv.freeze {D:Nat->Prop} {Pr0:Nat->Nat->Prop} {w0:World} {tm:Nat->Value} {w:World} {ow:Nat->Option Lab} {Pr:Nat->Nat->Prop} {B:Nat->Nat} {γ:List Nat} {key:Nat} {ob:LObj} {cur:Array Value} {e:TypeId}
  (h:Inv GE D Pr0 w0 s tm w ow Pr B γ) (hk:s.L key=some ob) (hne0:ob.rows≠ []) (hw:w.heap[B key]? =some (.cells cur e (0,0))):
  Inv GE D Pr0 w0 {s with L:=upd s.L key (some {ob with frz:=true})} tm w ow (XV Pr (B key) ob.rows.flatten.length) B γ:=by
 obtain ⟨⟨⟨cur0,e0,m1,mz,⟨F0,f1,f2,f3⟩,m2⟩,m3⟩,m4,m5⟩:=h.memObj hk hne0;rw [hw] at m1;cases m1;have hBne:∀b l,l≠ .bk key->ow b=some l->b≠B key:=fun b l hl hb e=>by
  subst e;rw [m3] at hb;exact hl (Un hb).symm
 have hsame:∀b,b≠B key->∀i,XV Pr (B key) ob.rows.flatten.length b i↔Pr b i:=fun b hb i=>⟨fun h=>h.elim id fun ⟨e,_⟩=>absurd e hb, .inl⟩
 have hmo:∀{l:Lab} {a:AV} {v:Value},l≠ .bk key->Holds w Pr γ w0.heap.size ow l a v->Holds w (XV Pr (B key) ob.rows.flatten.length) γ w0.heap.size ow l a v:=fun hl ⟨F,h1,h2,h3⟩=>
  ⟨F,h1.mono (Ext.refl (fun _=>False) Pr w) (fun _ _ _ h=> .inl h) (fun _ _ h=>h) (Uq _) (by simp) fun b hb=>hsame b (hBne b _ hl (h3 b hb)),h2,h3⟩
 have hmem:∀{b:Nat} {lc lb:Lab} {frz:Bool} {cells:List AV},lc≠ .bk key->lb≠ .bk key->Mem w Pr γ w0.heap.size ow b lc lb frz cells->Mem w (XV Pr (B key) ob.rows.flatten.length) γ w0.heap.size ow b lc lb frz cells:=fun hlc hlb ⟨⟨c,e,h1,hz,⟨F,h2,h3,h4⟩,h5⟩,h6⟩=>
  ⟨⟨c,e,h1,hz,⟨F,h2.mono (Ext.refl (fun _=>False) Pr w) (fun _ _ _ h=> .inl h) (fun _ _ h=>h) (Uq _) (by simp) fun b hb=>hsame b (hBne b _ hlc (h4 b hb)),h3,h4⟩,fun i=>(hsame _ (hBne _ _ hlb h6) i).trans (h5 i)⟩,h6⟩
 refine ⟨h.ext,fun b i hb hd=> ?_,fun b i hb hp=> .inl (h.inc b i hb hp),fun t=> ?_,fun key' ob' hk'=> ?_,fun id r hr=> ?_,h.glen,fun b i hp=> ?_,h.owl,h.owD,h.ngs,h.gl,h.ngo,h.gpre⟩
 ·have hne:b≠B key:=fun e=>by subst e;exact hd (h.owD _ _ m3 hb)
  exact (hsame b hne i).trans (h.oldp b i hb hd)
 ·have hst:=h.slot t;show Slot _ _ _ _ _ _ _ _ (s.env t) _;cases he:s.env t with
  |no=>exact trivial
  |val c=>
   rw [he] at hst;exact hmo (by simp) hst
  |lp key' i off=>
   rw [he] at hst;obtain ⟨o1,e1,e2⟩:=hst;by_cases hkk:key'=key
   ·subst hkk;rw [hk] at e1;cases e1;exact ⟨_,ZE _ _ _,e2⟩
   ·exact ⟨o1,(ZA _ _ hkk).trans e1,e2⟩
  |la key'=>
   rw [he] at hst;obtain ⟨o1,A,cap,e1,e2,e3⟩:=hst;by_cases hkk:key'=key
   ·subst hkk;rw [hk] at e1;cases e1;exact ⟨_,A,cap,ZE _ _ _,e2,e3⟩
   ·exact ⟨o1,A,cap,(ZA _ _ hkk).trans e1,e2,e3⟩
  |lv key' i off ag=>
   rw [he] at hst;obtain ⟨o1,cu,ty,e1,e2,e3,e4⟩:=hst;by_cases hkk:key'=key
   ·subst hkk;rw [hk] at e1;cases e1;exact ⟨_,cu,ty,ZE _ _ _,e2,e3,e4⟩
   ·exact ⟨o1,cu,ty,(ZA _ _ hkk).trans e1,e2,e3,e4⟩
 ·by_cases hkk:key'=key
  ·subst hkk;have hk2:upd s.L key' (some {ob with frz:=true}) key'=some ob':=hk';rw [ZE] at hk2;cases hk2;refine ⟨.inr ⟨⟨cur,e,hw,mz,⟨F0,f1.mono (Ext.refl (fun _=>False) Pr w) (fun _ _ _ h=> .inl h) (fun _ _ h=>h) (Uq _) (by simp) fun b hb=>hsame b (hBne b _ (by simp) (f3 b hb)),f2,f3⟩,fun i=> ?_⟩,m3⟩,m4,m5⟩;constructor
   ·rintro (hp | ⟨_,hp⟩)
    ·exact ⟨rfl,((m2 i).1 hp).2⟩
    ·exact ⟨rfl,hp⟩
   ·exact fun hp=> .inr ⟨rfl,hp.2⟩
  ·have hk2:s.L key'=some ob':=(ZA s.L _ hkk).symm.trans hk';obtain ⟨h1,h2⟩:=h.obj key' ob' hk2;exact ⟨h1.imp (fun x=>x) fun h1=>hmem (by simp) (by simpa using hkk) h1,h2⟩
 ·obtain ⟨b,hb,h1⟩:=h.gob id r hr;exact ⟨b,hb,hmem (by simp) (by simp) h1⟩
 ·rcases hp with hp | ⟨rfl,_⟩
  ·exact h.prl b i hp
  ·exact h.owl _ _ m3
theorem ZmP:∀{xs:List Operand} {s:St} {K:List AV->St->Option β},Ko xs s K=some r->∃as s1,K as s1=some r/\
  ∀{D:Nat->Prop} {Pr0:Nat->Nat->Prop} {w0:World} {a:Act} {w:World} {ow:Nat->Option Lab} {Pr:Nat->Nat->Prop} {B:Nat->Nat} {γ:List Nat},Inv GE D Pr0 w0 s (ZP a) w ow Pr B γ->
   ∃Pr',Inv GE D Pr0 w0 s1 (ZP a) w ow Pr' B γ/\Reps w Pr' γ w0.heap.size as (xs.map a.eval) []/\∀b i,Pr b i->Pr' b i
 | [],s,K,h=>⟨[],s,h,fun hi=>⟨_,hi, .nil,fun _ _ h=>h⟩⟩
 |x::xs,s,K,h=>by
  cases x with
  |tmp n=>
   simp only [Ko] at h;split at h
   ·rename_i key hen;split at h
    ·rename_i ob hL;split at h
     ·rename_i cs hrows;obtain ⟨as,s1,h,hok⟩:=ZmP h;refine ⟨_,_,h,fun {D Pr0 w0 a w ow Pr B γ} hi=> ?_⟩;have hne0:ob.rows≠ []:=by rw [hrows];simp
      obtain ⟨⟨⟨cur,e,m1,mz,⟨F,m2,m3,m4⟩,m5⟩,m6⟩,m7,m8⟩:=hi.memObj hL hne0;have hi2:=hi.freeze hL hne0 m1;have hs:=hi.slot n;rw [hen] at hs;obtain ⟨ob',h4,h5⟩:=hs;have hv:a.eval (.tmp n)= .pointer (some ⟨B key,0 * ob'.k + 0,none⟩):=h5;simp only [Nat.zero_mul,MZ] at hv;obtain ⟨Pr',h6,h7,h8⟩:=hok hi2;refine ⟨Pr',h6,?_,fun b i hp=>h8 b i (.inl hp)⟩;rw [Mb,hv];rw [hrows] at m2;simp only [UM,Fm,UK] at m2;refine Reps.cons (F:= []) (G:= []) rfl (.rp rfl (vs:=cur.toList.take cs.length) (fun j v hj=> ?_) (fun j hj=>h8 _ _ (.inr ⟨rfl,?_⟩)) (YL m1) ?_) h7
      ·rw [U0,X8 m1];simpa using Qu hj
      ·rw [hrows];rw [Uc] at hj;simp only [UM,Fm,UK];omega
      ·exact m2.clr.mono (Ext.refl (fun _=>False) Pr w) (fun b i _ hp=>h8 b i (.inl hp)) (fun _ _ h=>h) (Uq _) (by simp) (by simp)
     ·cases h
    ·cases h
   ·rename_i cs hen;obtain ⟨as,s1,h,hok⟩:=ZmP h;refine ⟨_,_,h,fun {D Pr0 w0 a w ow Pr B γ} hi=> ?_⟩;have hs:=hi.slot n;rw [hen] at hs;obtain ⟨F,h1,_,_⟩:=hs;obtain ⟨Pr',h6,h7,h8⟩:=hok hi;refine ⟨Pr',h6,Reps.cons (F:= []) (G:= []) rfl ?_ h7,h8⟩;have h2:Rep w Pr γ w0.heap.size (.rp (clrs cs)) (ZP a n) []:=h1.clr;exact h2.mono (Ext.refl (fun _=>False) Pr w) (fun b i _ hp=>h8 b i hp) (fun _ _ h=>h) (Uq _) (by simp) (by simp)
   ·cases h
  |const v=>simp [Ko] at h
  |func f=>simp [Ko] at h
  |global g=>simp [Ko] at h
theorem ZBC {f:Nat} {first captured:Array Operand} (ho:o.op= .makeFunc (.func f) first captured) (hf:first.isEmpty=true)
  (h:Ko captured.toList s (fun cs s'=>K (.val (.fn f cs)) s')=some r):∃sv s1,K sv s1=some r/\ZU P GE nt o s sv s1:=by
 obtain ⟨as,s1,h,hok⟩:=ZmP (GE:=GE) h;refine ⟨_,_,h,fun D Pr0 w0 a w ⟨ow,Pr,B,γ,hi,hd,hn⟩ hokd next Q hnext=> ?_⟩;obtain ⟨Pr',h1,h2,_⟩:=hok hi;have hfe:first= #[]:=by simpa using hf
 have hrun:(execOp a.eval o).run P w= .ok (.value (.func (.func f) #[] (captured.toList.map a.eval).toArray)) w:=by
  have:captured.map a.eval=(captured.toList.map a.eval).toArray:=by apply Mu;simp
  simp [execOp,ho,hfe,Instr.makeFunc,this]
 exact Ya hrun (hnext _ _ (Z2 h1 hd hn hokd ⟨[], .fn h2,UE,by simp⟩))
theorem ZmQ (o:Own) (xs:List (List AV)):(Q7 o xs).length=xs.length:=by cases o <;> simp [Q7]
theorem Rep.slice_of {w:World} {Pr:Nat->Nat->Prop} {γ:List Nat} {base k:Nat} {o:Own} {xs:List (List AV)} {v:Value} {F:List Nat} (ho:o.nu=true) (h:Rep w Pr γ base (.slc o k xs) v F):
  ∃A n cap vs F',v= .slice A n cap/\(Q7 o xs).length=n/\n<=cap/\(∀x∈Q7 o xs,x.length=k)/\Reps w Pr γ base (Q7 o xs).flatten vs F'/\(∀b∈F',b∈F)/\(F.Nodup->F'.Nodup)/\
   (n=0\/∃ad,A=some ad/\ad.spot=none/\K5 w ad vs):=by
 cases h with
 |shr e2 e3 e4 e5 e6 e7=>
  refine ⟨_,_,_,_,_,rfl,by rw [ZmQ];exact e2,e3,fun x hx=> ?_,by rw [Zra] at e6;exact e6,fun _ h=>h,fun h=>h,?_⟩
  ·obtain ⟨y,hy,rfl⟩:=List.mem_map.1 hx;rw [Xy];exact e5 y hy
  rcases e7 with e7 | ⟨ad,r1,r2,r3,_⟩
  ·exact .inl e7
  ·exact .inr ⟨ad,r1,r2,r3⟩
 |nil=>exact ⟨_,0,0,[],[],rfl,rfl,Uq _,by simp [Q7], .nil,by simp,fun _=>UE, .inl rfl⟩
 |unil=>cases ho
 |unq=>cases ho
 |own e1 e2 e3 e4 e5 e6 e7 e8 e9 _=>
  exact ⟨_,_,_,_,_,rfl,e5,e3,e6,e8,fun _ h=>Ug _ h,fun h=>(List.nodup_cons.1 h).2, .inr ⟨_,rfl,rfl,by rw [←e7];exact Zhh e1⟩⟩
theorem ZrF {w:World} {t ty e k n cap m:Nat} {i:TypeInfo} (ht:P.underlying t=some (.slice e)) (hi:P.info? e=some i) (hs:i.size=k) {g:Nat} {cur:Array Value} {e':TypeId} (hg:w.heap[g]? =some (.cells cur e' (0,0)))
  {A:Option Addr} {c:Nat} {news:List Value} (hl:news.length=m * k) (hf:(Builtin.firstCells k m (.slice A m c)).run P w= .ok news.toArray w) (h1:∀u∈news,u.oneCell'=true) (hroom:n + m<=cap) (hsz:cur.size=cap * k):
  (Builtin.append_ #[t,t] ty #[.slice (some ⟨g,0,none⟩) n cap, .slice A m c]).run P w= .ok (.slice (some ⟨g,0,none⟩) (n + m) cap) (w.setRow g (cur.toList.take (n * k) ++ news ++ cur.toList.drop (n * k + news.length)).toArray):=by
 have hfit:n * k + news.length<=cur.size:=by rw [hl,hsz,←UX];exact UL _ hroom
 have hst:=run_storeCells_at P g (n * k) e' news 0 cur w hg (by simpa using hfit) h1;simp only [MZ] at hst;simp [Builtin.append_,run_underlying ht,sizeOf,typeInfo,hi,hs,Builtin.lenOf,hroom,hf,Addr.add_lit,hst]
theorem ZrG {w:World} {t ty e:Nat} {i:TypeInfo} (ht:P.underlying t=some (.slice e)) (hi:P.info? e=some i) {A A':Option Addr} {c:Nat}:
  (Builtin.append_ #[t,t] ty #[.slice A 0 0, .slice A' 0 c]).run P w= .ok (.slice A 0 0) w:=by
 have hf:(Builtin.firstCells i.size 0 (.slice A' 0 c)).run P w= .ok #[] w:=by
  cases A' <;> simp [Builtin.firstCells,loadCells,loadCellsFrom]
 cases A <;> simp [Builtin.append_,run_underlying ht,sizeOf,typeInfo,hi,Builtin.lenOf,hf,storeCells]
theorem ZrH {b:Nat} {F G:List Nat} (h1:(b::F).Nodup) (h2:G.Nodup) (h3:∀x∈b::F,x∉G):(b::(F ++ G)).Nodup:=by grind
theorem ZrI (hT:TOk P T) {t ty e k:Nat} (ht:T t= .sl e k) {w:World} {Pr:Nat->Nat->Prop} {γ:List Nat} {base:Nat} {ow:Nat->Option Lab} {x y c:AV} {u v:Value} {F G:List Nat} (h:Zbn k (byA (T e)) x y=some c)
  (hx:Rep w Pr γ base x u F) (hy:Rep w Pr γ base y v G) (hn:(F ++ G).Nodup) (hF:∀b∈F ++ G,ow b=some .pd) (hprl:∀b i:Nat,Pr b i->b < w.heap.size) (howl:∀(b:Nat) (l:Lab),ow b=some l->b < w.heap.size):
  ∃q w' Pr' ow' H,(Builtin.append_ #[t,t] ty #[u,v]).run P w= .ok q w'/\Step w w' Pr Pr' γ γ ow ow'/\Rep w' Pr' γ base c q H/\H.Nodup/\∀b∈H,ow' b=some .pd:=by
 obtain ⟨j,z,hj,hs,hk0,hby,hz,hzo,hek⟩:=JD hT ht;have hu:=VF hT ht;unfold Zbn at h;split at h
 case h_2=>cases h
 rename_i k1 xs o2 k2 ys;cases hk:o2.nu && (Nat.beq k k1 && Nat.beq k k2) with
 |false=>rw [hk] at h;cases h
 |true=>
 rw [hk] at h;rw [Ub,Ub] at hk;obtain ⟨hnu,hk⟩:=hk;obtain rfl:=Ud hk.1;obtain rfl:=Ud hk.2;simp only [Ut] at h;split at h
 case isFalse=>cases h
 rename_i hle;cases h;obtain ⟨A',m,c',news,G',rfl,y1,y2,y3,y4,y5,y6,y7⟩:=hy.slice_of hnu;clear hy;rw [←ZmQ o2 ys] at hle;generalize Q7 o2 ys=ys at hle y1 y3 y4 ⊢;have hG':G'.Nodup:=y6 (List.nodup_append.1 hn).2.1;have hnl:news.length=m * k:=by rw [y4.length_eq,Yb y3,y1]
 have h1:=y4.oneCell;have hfirst:∀W:World,W.heap=w.heap->(Builtin.firstCells k m (.slice A' m c')).run P W= .ok news.toArray W:=fun W hW=>by
  rcases y7 with rfl | ⟨ad,rfl,a1,a2⟩
  ·have:news= []:=Us (by simpa using hnl);subst this;cases A' <;> simp [Builtin.firstCells,loadCells,loadCellsFrom]
  ·refine run_firstCells_some W k m ad m c' news hnl fun j v hj=> ?_
   rw [Qt a1];have:=a2 j v hj;simpa [World.cell?,hW] using this
 obtain ⟨hle1,hle2⟩:=hle;have hbig:∀{N:Nat},N=xs.length + ys.length->N * j.bytes<=140737488355328:=fun {N} hN=>by
  have:N * j.bytes<=N * byA (T e):=Fp _ (ZmC hT ht hj);rw [hN] at this ⊢;omega
 have grow:∀(olds:List Value) (n old:Nat) (Fx:List Nat),0 < n + m->n + m<=1152921504606846976->olds.length=n * k->n=xs.length->(∀x∈xs,x.length=k)->Reps w Pr γ base xs.flatten olds Fx->(Fx ++ G').Nodup->(∀b∈Fx ++ G',ow b=some .pd)->
   ∃Pr' ow' H,Step w (w.drew.alloc (.cells (olds.toArray ++ news.toArray ++ Builtin.zeroCells z.cells (grownCap w (n + m) old e - (n + m))) e)) Pr Pr' γ γ ow ow'/\
    Rep (w.drew.alloc (.cells (olds.toArray ++ news.toArray ++ Builtin.zeroCells z.cells (grownCap w (n + m) old e - (n + m))) e)) Pr' γ base (.slc .own k (xs ++ ys)) (.slice (some ⟨w.heap.size,0,none⟩) (n + m) (grownCap w (n + m) old e)) H/\H.Nodup/\∀b∈H,ow' b=some .pd:=by
  intro olds n old Fx hnm0 hnm hol hnx hxk hrx hnd hpd;have hge:=grownCap_ge w (n + m) old e;have hcm:grownCap w (n + m) old e<=maxLen:=grownCap_le_maxLen w (n + m) old e (by simp only [maxLen];omega);have hst1:=Step.drew (γ:=γ) hprl howl;have hst2:=Step.alloc (w:=w.drew) (γ:=γ) hprl howl (.cells (olds.toArray ++ news.toArray ++ Builtin.zeroCells z.cells (grownCap w (n + m) old e - (n + m))) e) ((n + m) * k);have hst:=hst1.trans hst2 (fun _ _ h=>h);have hlt:∀b∈Fx ++ G',b < w.heap.size:=fun b hb=>howl b _ (hpd b hb)
  have hzc:z.cells.size=k:=by
   obtain ⟨_,z2⟩:=Zbz (w:=w) (Pr:=Pr) (γ:=γ) (base:=base) hzo;rw [z2,hek]
  refine ⟨_,_,w.heap.size::(Fx ++ G'),hst,?_,?_,fun b hb=> ?_⟩
  ·refine .own (heap_alloc_new w.drew _) ?_ hge hcm (by rw [Uh,y1,hnx]) (fun x hx=>(List.mem_append.1 hx).elim (hxk x) (y3 x)) (vs:=olds ++ news) ?_ ?_ (fun i=> ?_) hnm0
   ·simp only [M0,UR,size_zeroCells,hzc,hol,hnl,←UX];congr 1;omega
   ·simp only [M5,Uw];rw [←Uw,show (n + m) * k=(olds ++ news).length by rw [Uh,hol,hnl,UX]];exact FP
   ·rw [Mv];refine (hrx.append y4).mono ((Ext.drew (fun _=>False) Pr w).trans (Ext.alloc (fun _=>False) Pr _ _) (fun _ _ h=>h) (fun _ _ _ h=>h)) hst.inc hst.ge (Uq _) (by simp) fun b hb i=> ?_
    have hb':=hlt b hb;constructor
    ·rintro (h | ⟨rfl,_⟩)
     ·exact h
     ·exact absurd hb' (MR _)
    ·exact .inl
   ·constructor
    ·rintro (h | ⟨_,h⟩)
     ·exact absurd (hprl _ _ h) (MR _)
     ·exact h
    ·exact fun h=> .inr ⟨rfl,h⟩
  ·rw [List.nodup_cons];exact ⟨fun hm=>absurd (hlt _ hm) (MR _),hnd⟩
  ·show (if b=w.heap.size then _ else _)=_;rcases List.mem_cons.1 hb with rfl |hb
   ·rw [Ul rfl]
   ·rw [Uf (by have:=hlt b hb;omega)];exact hpd b hb
 have hsub:∀b∈G',b∈G:=y5;cases hx with
 | @nil _ A=>
  simp only [UQ,U0] at hle1 hle2 hbig;rcases MW m with hm |hm
  ·subst hm;have hys:ys= []:=Us y1;subst hys;exact ⟨.slice A 0 0,w,Pr,ow,[],ZrG hu hj,⟨Ext.refl _ _ _,fun _ _ _ h=>h,fun _ _ _ _=>Ms,hprl,fun _ _ _ h=>h,howl,fun _ l h _=>⟨l,h⟩,fun _ _ h=>h⟩, .nil,UE,by simp⟩
  ·rcases y7 with h0 | ⟨ad,rfl,a1,a2⟩
   ·omega
   have hcell:∀(j:Nat) (u:Value),news[j]? =some u->w.cell? (ad.add j)=some u:=fun j u hj=>by rw [Qt a1];exact a2 j u hj
   obtain ⟨Pr',ow',H,g1,g2,g3,g4⟩:=grow [] 0 0 [] (by omega) (by omega) (by simp) rfl (by simp) .nil (by simpa using hG') (fun b hb=>hF b (UD _ (hsub b (by simpa using hb))));rw [U0] at g1 g2;refine ⟨_,_,Pr',ow',H,?_,g1,g2,g3,g4⟩;have hfit:=growslice_fits (need:=m) (old:=0) (bytes:=j.bytes) hm (hbig (by omega));cases A with
   |none=>
    have:=run_append_nil (P:=P) w t ty e j z hu hj hz ad m c' news (by rw [hs];exact hnl) hcell hm (by omega) (by have:=hbig (N:=m) (by omega);omega);rw [this];simp
   |some A=>
    have:=run_append_grow (P:=P) w t ty e j z hu hj hz A 0 0 [] (by simp) (by simp) ad m c' news (by rw [hs];exact hnl) hcell (by omega) (by omega) (by simpa using hfit);simp only [U0] at this;rw [this]
 | @own _ b n cap e' cur _ vs Fx e1 e2 e3 e4 e5 e6 e7 e8 e9 hpos=>
  have hFn:=(List.nodup_append.1 hn).1;have hdis:∀x∈b::Fx,x∉G':=fun x hx hg=>(List.nodup_append.1 hn).2.2 x hx x (hsub x hg) rfl
  have hpd:∀x∈Fx ++ G',ow x=some .pd:=fun x hx=>hF x (by
   rcases List.mem_append.1 hx with hx |hx
   ·simp [hx]
   ·exact UD _ (hsub x hx))
  have hnd:=ZrH hFn hG' hdis;have hvl:vs.length=n * k:=by rw [e8.length_eq,Yb e6,e5]
  by_cases hroom:n + m<=cap
  ·have hrun:=ZrF (ty:=ty) (n:=n) (cap:=cap) (m:=m) hu hj hs e1 hnl (hfirst w rfl) h1 hroom e2;have hbp:ow b=some .pd:=hF b (by simp);have hblt:=YL e1;have hsz:(cur.toList.take (n * k) ++ news ++ cur.toList.drop (n * k + news.length)).toArray.size=cur.size:=by
    have:(n + m) * k<=cap * k:=UL _ hroom;rw [UX] at this;simp only [UR,Uh,Uc,Uu,Ue];omega
   have htk:(cur.toList.take (n * k) ++ news ++ cur.toList.drop (n * k + news.length)).take ((n + m) * k)=vs ++ news:=by
    rw [e7,show (n + m) * k=(vs ++ news).length by rw [Uh,hvl,hnl,UX]];exact FP
   have hext:Ext (fun c=>c=b) Pr w (w.setRow b (cur.toList.take (n * k) ++ news ++ cur.toList.drop (n * k + news.length)).toArray):=by
    refine ⟨rfl,rfl,rfl,by simp,fun c hc hnp=>setRow_other w b c _ hnp,fun c i hc hp=> ?_,fun c cu ty hc=> ?_⟩
    ·by_cases hcb:c=b
     ·subst hcb;have hi:=(e9 i).1 hp;rw [cell_setRow_same w c i cur _ e' _ e1,X8 e1];simp only [List.getElem?_toArray,Uw];rw [UZ (by rw [Uc,Ue];have:n * k<=cap * k:=UL _ e3;omega),UA,Ul hi];simp
     ·exact cell_setRow_other w b _ _ hcb
    ·by_cases hcb:c=b
     ·subst hcb;rw [e1] at hc;cases hc;exact ⟨_,setRow_heap w c cur _ e' _ e1,hsz⟩
     ·exact ⟨cu,by rw [setRow_other w b c _ hcb];exact hc,rfl⟩
   have hst:Step w (w.setRow b (cur.toList.take (n * k) ++ news ++ cur.toList.drop (n * k + news.length)).toArray) Pr (XV Pr b ((n + m) * k)) γ γ ow ow:=by
    refine ⟨⟨rfl,rfl,rfl,by simp,fun c hc hnp=>setRow_other w b c _ (fun e=>hnp (by rw [e];exact hbp)),hext.cell,hext.shp⟩,fun _ _ _ h=> .inl h,fun c i hc hnp=>⟨fun h=>h.elim id fun ⟨e,_⟩=>absurd (by rw [e];exact hbp) hnp, .inl⟩,fun c i hp=> ?_,fun _ _ _ h=>h,fun c l hc=>by rw [setRow_size];exact howl c l hc,fun _ l h _=>⟨l,h⟩,fun _ _ h=>h⟩
    ·rw [setRow_size];rcases hp with hp | ⟨rfl,_⟩
     ·exact hprl c i hp
     ·exact hblt
   refine ⟨_,_,_,_,b::(Fx ++ G'),hrun,hst,?_,hnd,fun x hx=> ?_⟩
   ·refine .own (setRow_heap w b cur _ e' _ e1) (hsz.trans e2) hroom e4 (by rw [Uh,e5,y1]) (fun x hx=>(List.mem_append.1 hx).elim (e6 x) (y3 x)) htk ?_ (fun i=> ?_) (by omega)
    ·rw [Mv];refine (e8.append y4).mono hext hst.inc hst.ge (Uq _) (fun x hx e=>(List.nodup_cons.1 hnd).1 (e ▸ hx)) fun x hx i=> ?_
     have hxb:x≠b:=fun e=>by subst e;exact (List.nodup_cons.1 hnd).1 hx
     exact ⟨fun h=>h.elim id fun ⟨e,_⟩=>absurd e hxb, .inl⟩
    ·constructor
     ·rintro (h | ⟨_,h⟩)
      ·have:=(e9 i).1 h;rw [UX];omega
      ·exact h
     ·exact fun h=> .inr ⟨rfl,h⟩
   ·rcases List.mem_cons.1 hx with rfl |hx
    ·exact hbp
    ·exact hpd x hx
  ·rcases y7 with h0 | ⟨ad,rfl,a1,a2⟩
   ·omega
   have hcell:∀(j:Nat) (u:Value),news[j]? =some u->w.cell? (ad.add j)=some u:=fun j u hj=>by rw [Qt a1];exact a2 j u hj
   have holds:∀(j:Nat) (u:Value),vs[j]? =some u->w.cell? ((⟨b,0,none⟩:Addr).add j)=some u:=fun j u hj=>by
    rw [Zhg];have:=Zhh (n:=n) (k:=k) e1 j u (by rw [e7];exact hj);exact this
   obtain ⟨Pr',ow',H,g1,g2,g3,g4⟩:=grow vs n cap Fx (by omega) (by omega) hvl e5.symm e6 e8 (List.nodup_cons.1 hnd).2 hpd;refine ⟨_,_,Pr',ow',H,?_,g1,g2,g3,g4⟩;exact run_append_grow (P:=P) w t ty e j z hu hj hz ⟨b,0,none⟩ n cap vs (by rw [hs];exact hvl) holds ad m c' news (by rw [hs];exact hnl) hcell (by omega) (by omega) (growslice_fits (by omega) (hbig (by omega)))
theorem ZBD (hT:TOk P T) {t t' e k:Nat} {x y:Operand} {c:Call} {tk:Bool} {cf cf':Value->Option AV} (hcf:CfOk cf) (hcf':CfOk cf') (ho:o.op= .call c) (hc:c.callee= .builtin .append) (hx:c.args.toList= [x,y]) (hts:c.argTypes.toList= [t,t'])
  (htt:Nat.beq t t'=true) (ht:T t= .sl e k)
  (h:rd true cf x s (fun a s1=>rd tk cf' y s1 fun b s2=>match a,b with
   | .val a, .val b=>(Zbn k (byA (T e)) a b).bind fun r=>K (.val r) s2
   | _,_=>none)=some r):∃sv s1,K sv s1=some r/\ZU P GE nt o s sv s1:=by
 obtain rfl:=Ud htt;obtain ⟨sx,s1,h,hrx⟩:=Xj (GE:=GE) hcf h;obtain ⟨sy,s2,h,hry⟩:=Xj (GE:=GE) hcf' h;split at h
 case h_2=>cases h
 rename_i a b;obtain ⟨q,hq,h⟩:=ZG h;have hargs:c.args= #[x,y]:=by apply Mu;simpa using hx
 have htys:c.argTypes= #[t,t]:=by apply Mu;simpa using hts
 refine ⟨_,_,h,fun D Pr0 w0 a w ⟨ow,Pr,B,γ,hi,hd,hn⟩ hok next Q hnext=> ?_⟩;obtain ⟨ow1,h1,h2,F,f1,f2,f3,f4⟩:=hrx.ok hi;obtain ⟨ow2,h3,h4,G,g1,g2,g3,g4⟩:=hry.ok h1;have hnd:(F ++ G).Nodup:=by
  rw [List.nodup_append];exact ⟨f2,g2,fun x hx y hy e=>by subst e;exact g4 x hy (f3 x hx)⟩
 obtain ⟨v,w',Pr',ow',H,e1,e2,e3,e4,e5⟩:=ZrI (ty:=o.type) hT ht hq f1 g1 hnd (fun b hb=>by
  rcases List.mem_append.1 hb with hb |hb
  ·exact h4 b (f3 b hb)
  ·exact g3 b hb) h3.prl h3.owl
 have hrun:(execOp a.eval o).run P w= .ok (.value v) w':=by
  simp [execOp,ho,resolve,hc,hargs,htys,invoke,builtin,e1]
 exact Ya hrun (hnext _ _ (Z2 (h3.step e2 rfl) hd hn hok ⟨H,e3,e4,e5⟩))
end
end Go.Fx
