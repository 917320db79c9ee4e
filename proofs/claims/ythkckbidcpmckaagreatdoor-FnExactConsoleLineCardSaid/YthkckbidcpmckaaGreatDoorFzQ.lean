/- Struct literals, slice literals, closures: each as one operation of a region. -/
import Derived.Test.YthkckbidcpmckaaGreatDoorFzO
set_option linter.all false
namespace Go.Fx
section
variable {P:Program} {GE:Glob} {nt:Nat} {T:Nat->TD} {β:Type} {K:SV->St->Option β} {r:β} {o:Oper} {s:St}
structure RdsOk (GE:Glob) (s s1:St) (xs:List Operand) (as:List AV):Prop where
 L:s1.L=s.L
 G:s1.G=s.G
 ok:∀{D:Nat->Prop} {Pr0:Nat->Nat->Prop} {w0:World} {a:Act} {w:World} {ow:Nat->Option Lab} {Pr:Nat->Nat->Prop} {B:Nat->Nat} {γ:List Nat},
  Inv GE D Pr0 w0 s (ZP a) w ow Pr B γ->∃ow1,Inv GE D Pr0 w0 s1 (ZP a) w ow1 Pr B γ/\(∀b,ow b=some .pd->ow1 b=some .pd)/\
   ∃F,RepL w Pr γ w0.heap.size as (xs.map a.eval) F/\F.Nodup/\(∀b∈F,ow1 b=some .pd)/\(∀b∈F,ow b≠some .pd)
theorem RdsOk.nil:RdsOk GE s s [] []:=⟨rfl,rfl,fun hi=>⟨_,hi,fun _ h=>h,[], .nil,UE,by simp,by simp⟩⟩
theorem RdsOk.cons {s1 s2:St} {x:Operand} {a:AV} {xs:List Operand} {as:List AV} (h:RdOk GE s s1 x (.val a)) (h':RdsOk GE s1 s2 xs as):RdsOk GE s s2 (x::xs) (a::as):=by
 refine ⟨h'.L.trans h.L,h'.G.trans h.G,fun hi=> ?_⟩;obtain ⟨ow1,h1,h2,F,f1,f2,f3,f4⟩:=h.ok hi;obtain ⟨ow2,h3,h4,G,g1,g2,g3,g4⟩:=h'.ok h1;refine ⟨ow2,h3,fun b hb=>h4 b (h2 b hb),F ++ G, .cons f1 g1,?_,fun b hb=> ?_,fun b hb=> ?_⟩
 ·rw [List.nodup_append];exact ⟨f2,g2,fun x hx y hy e=>by subst e;exact g4 x hy (f3 x hx)⟩
 ·rcases List.mem_append.1 hb with hb |hb
  ·exact h4 b (f3 b hb)
  ·exact g3 b hb
 ·rcases List.mem_append.1 hb with hb |hb
  ·exact f4 b hb
  ·exact fun e=>g4 b hb (h2 b e)
theorem Zhk {tk:Bool} {cf:Nat->Value->Option AV} (hcf:∀i,CfOk (cf i)):∀{xs:List (Nat×Operand)} {s:St} {K:List (Nat×AV)->St->Option β},Xi tk cf xs s K=some r->
  ∃as s1,K as s1=some r/\RdsOk GE s s1 (xs.map (·.2)) (as.map (·.2))/\as.map (·.1)=xs.map (·.1)
 | [],s,K,h=>⟨[],s,h, .nil,rfl⟩
 | (i,x)::xs,s,K,h=>by
  simp only [Xi] at h;obtain ⟨sv,s1,h,hr⟩:=Xj (GE:=GE) (hcf i) h;split at h
  case h_2=>cases h
  rename_i a;obtain ⟨as,s2,h,h1,h2⟩:=Zhk hcf h;exact ⟨_,_,h, .cons hr h1,by simp [h2]⟩
theorem Zhl {off:Nat} {cells:Array Value} {v:Value} (h:off + v.cells.size<=cells.size):
  v.cells.zipIdx.foldl (fun cs (x:Value×Nat)=>cs.setIfInBounds (off + x.2) x.1) cells=(cells.toList.take off ++ (v.cells.toList ++ cells.toList.drop (off + v.cells.toList.length))).toArray:=by
 obtain ⟨h1,h2⟩:=Great.foldl_set off v.cells.toList 0 cells;rw [←Array.foldl_toList,Array.toList_zipIdx];apply Array.ext_getElem?;intro k;rw [h2 k];simp only [Ue,MZ,List.getElem?_toArray];by_cases hk:k < off
 ·rw [Uf (by omega),UZ (by rw [Uc,Ue];omega)];simp [hk]
 ·rw [Mi (by rw [Uc,Ue];omega),Uc,Ue,U8 (by omega)];by_cases hk2:k < off + v.cells.size
  ·rw [Ul (by omega),UZ (by rw [Ue];omega)]
  ·rw [Uf (by omega),Mi (by rw [Ue];omega),US,Ue];simp only [Mo];congr 1;omega
theorem ZBv {FA FM FZ Fa G:List Nat} (h:((FA ++ (FM ++ FZ)) ++ (Fa ++ G)).Nodup):((FA ++ (Fa ++ FZ)) ++ G).Nodup:=by grind
theorem ZBw {FA FM FZ Fa G:List Nat} {b:Nat} (h:b∈(FA ++ (Fa ++ FZ)) ++ G):b∈(FA ++ (FM ++ FZ)) ++ (Fa ++ G):=by grind
theorem ZmN {w:World} {Pr:Nat->Nat->Prop} {γ:List Nat} {base:Nat} {offs:List (Nat×Nat)} {place:Nat->Option (Nat×Nat)} (hpl:∀f p,offs[f]? =some p->place f=some p):∀{ps:List (Nat×AV)} {vs:List Value} {cs cs':List AV} {cells:Array Value} {F0 F:List Nat},ZcN offs cs ps=some cs'->
  Reps w Pr γ base cs cells.toList F0->RepL w Pr γ base (ps.map (·.2)) vs F->(F0 ++ F).Nodup->
  ∃cells' F',Instr.fill place cells ((ps.map (·.1)).zip vs)=some cells'/\Reps w Pr γ base cs' cells'.toList F'/\F'.Nodup/\∀b∈F',b∈F0 ++ F
 | [],_,cs,cs',cells,F0,F,h,h0,h1,hn=>by
  cases h;cases h1;exact ⟨cells,F0,by simp [Instr.fill],h0,(List.nodup_append.1 hn).1,fun b hb=>by simp [hb]⟩
 | (f,a)::ps,_,cs,cs',cells,F0,F,h,h0,h1,hn=>by
  cases h1 with
  | @cons _ v Fa _ vs G ha h1=>
  simp only [ZcN] at h;split at h
  ·cases h
  ·rename_i off sz hf;obtain ⟨as,has,h⟩:=ZG h;split at h
   ·rename_i hle;obtain ⟨c1,c2,c3⟩:=ha.cellsN has;have hl:=h0.length_eq;rw [Ue] at hl;have hA:cs=cs.take off ++ ((cs.drop off).take sz ++ cs.drop (off + sz)):=by
     rw [←MD,Up,Up]
    rw [hA] at h0;obtain ⟨FA,FM,FZ,rfl,h2⟩:=h0.splice c2 (by rw [Uc,Uu];omega);rw [Uc,U8 (by omega)] at h2;have hset:=Zhl (off:=off) (cells:=cells) (v:=v) (by omega);have h3:Reps w Pr γ base (ZL cs off as) ((v.cells.zipIdx.foldl (fun cs (x:Value×Nat)=>cs.setIfInBounds (off + x.2) x.1) cells)).toList (FA ++ (Fa ++ FZ)):=by
     rw [hset];unfold ZL;rw [c3];simpa only [Uw] using h2
    obtain ⟨cells',F',e1,e2,e3,e4⟩:=ZmN hpl h h3 h1 (ZBv hn);refine ⟨cells',F',?_,e2,e3,fun b hb=>ZBw (e4 b hb)⟩;simp only [Mb,List.zip_cons_cons,Instr.fill];have hf':place f=some (off,sz):=hpl f _ hf;rw [hf'];simp only;rw [Uf (by simp [c1];omega)];exact e1
   ·cases h
theorem ZmO (a:Act) (parts:Array (Nat×Operand)):(parts.map fun (i,x)=>(i,a.eval x)).toList=(parts.toList.map (·.1)).zip ((parts.toList.map (·.2)).map a.eval):=by
 rw [Array.toList_map,MP,List.zip_map'];rfl
theorem ZBx (hT:TOk P T) {t:Nat} {cz:List (Option Nat×Value)} {offs:List (Nat×Nat)} (h:T t= .st cz offs):
  ∃fs,P.underlying t=some (.struct fs)/\fs.toList.mapM (fun f=>(P.info? f.type).map fun i=>(f.offset,i.size))=some offs:=by
 have:=hT t;unfold Qs at this;rw [h] at this;obtain ⟨⟨fs,h1,h2,h3,_⟩,_⟩:=this;refine ⟨fs,h1,?_⟩;have key:∀(l:List Field) (offs:List (Nat×Nat)),l.length=offs.length->(∀(i:Nat) (f:Field),l[i]? =some f->∃j,P.info? f.type=some j/\offs[i]? =some (f.offset,j.size))->
   l.mapM (fun f=>(P.info? f.type).map fun i=>(f.offset,i.size))=some offs:=by
  intro l
  induction l with
  |nil=>
   intro offs hl _;cases offs with
   |nil=>rfl
   |cons _ _=>cases hl
  |cons f l ih=>
   intro offs hl hf;cases offs with
   |nil=>cases hl
   |cons p offs=>
    obtain ⟨j,e1,e2⟩:=hf 0 f rfl;simp at e2;subst e2;rw [MU,e1,ih offs (by simpa using hl) fun i g hg=>by simpa using hf (i + 1) g (by simpa using hg)];rfl
 refine key _ _ (by simpa using h2) fun i f hf=> ?_
 obtain ⟨j,e1,_,e2,_⟩:=h3 i f (by simpa using hf);exact ⟨j,e1,e2⟩
theorem ZBy (hT:TOk P T) {t:Nat} {tk:Bool} {cz:List (Option Nat×Value)} {offs:List (Nat×Nat)} {parts:Array (Nat×Operand)} (ho:o.op= .build t parts) (ht:T t= .st cz offs)
  (h:Xi tk (fun i=>constP cz offs[i]?) parts.toList s (fun ps s'=>(ZcN offs (czA cz) ps).bind fun cs=>K (.val (.agg cs)) s')=some r):∃sv s1,K sv s1=some r/\ZU P GE nt o s sv s1:=by
 obtain ⟨as,s1,h,hr,hidx⟩:=Zhk (GE:=GE) (fun i=>CfOk.constP cz offs[i]?) h;obtain ⟨cs,hcs,h⟩:=ZG h;refine ⟨_,_,h,fun D Pr0 w0 a w ⟨ow,Pr,B,γ,hi,hd,hn⟩ hok next Q hnext=> ?_⟩;obtain ⟨ow1,h1,_,F,f1,f2,f3,f4⟩:=hr.ok hi;have hok':(T t).ok=true:=by rw [ht];rfl
 obtain ⟨i,z,i1,i2,i3,i4⟩:=ZmM hT hok';obtain ⟨z1,z2⟩:=Zbz (w:=w) (Pr:=Pr) (γ:=γ) (base:=w0.heap.size) i4;rw [ht] at z1;obtain ⟨cells',F',e1,e2,e3,e4⟩:=ZmN (place:=(offs.toArray[·]?)) (fun f p hf=>by simpa using hf) (cells:=z.cells) hcs z1 f1 (by simpa using f2);obtain ⟨fs,u1,u2⟩:=ZBx hT ht;have hb:P.built t (parts.map fun (i,x)=>(i,a.eval x)).toList=some cells':=by
  unfold Program.built;rw [i1,u1];simp only [i3,u2];rw [ZmO,←hidx];exact e1
 have hrun:(execOp a.eval o).run P w= .ok (.value (.agg cells')) w:=by
  simp only [execOp,ho,Sem.run_bind,run_build (P:=P) w t _ cells' hb,Result.andThen_ok,Sem.run_pure]
 exact Ya hrun (hnext _ _ (Z2 h1 hd hn hok ⟨F',ZgX e2,e3,fun b hb=>f3 b (by simpa using e4 b hb)⟩))
theorem ZrD {k:Nat}:∀{n o f:Nat} {p:Nat×Nat},(Jy k o n)[f]? =some p->p=(o + f * k,k)
 | 0,_,_,_,h=>by simp [Jy] at h
 |n + 1,o,0,p,h=>by simp [Jy] at h;rw [←h];simp
 |n + 1,o,f + 1,p,h=>by
  have:=ZrD (n:=n) (o:=o + k) (f:=f) (by simpa [Jy] using h);rw [this,UX];congr 1;omega
theorem ZBz (hT:TOk P T) {t n k:Nat} {tk:Bool} {cz:List (Option Nat×Value)} {parts:Array (Nat×Operand)} (ho:o.op= .build t parts) (ht:T t= .ar n k cz)
  (h:Xi tk (fun i=>constP cz (Jy k 0 n)[i]?) parts.toList s (fun ps s'=>(ZcN (Jy k 0 n) (czA cz) ps).bind fun cs=>K (.val (.agg cs)) s')=some r):∃sv s1,K sv s1=some r/\ZU P GE nt o s sv s1:=by
 obtain ⟨as,s1,h,hr,hidx⟩:=Zhk (GE:=GE) (fun i=>CfOk.constP cz (Jy k 0 n)[i]?) h;obtain ⟨cs,hcs,h⟩:=ZG h;refine ⟨_,_,h,fun D Pr0 w0 a w ⟨ow,Pr,B,γ,hi,hd,hn⟩ hok next Q hnext=> ?_⟩;obtain ⟨ow1,h1,_,F,f1,f2,f3,f4⟩:=hr.ok hi;have hok':(T t).ok=true:=by rw [ht];rfl
 obtain ⟨i,z,i1,i2,i3,i4⟩:=ZmM hT hok';obtain ⟨z1,z2⟩:=Zbz (w:=w) (Pr:=Pr) (γ:=γ) (base:=w0.heap.size) i4;rw [ht] at z1;obtain ⟨e,j,u1,u2,u3,_⟩:=Zrw hT ht;obtain ⟨cells',F',e1,e2,e3,e4⟩:=ZmN (place:=fun i=>some (i * j.size,j.size)) (fun f p hf=>by rw [ZrD hf,u3];simp) (cells:=z.cells) hcs z1 f1 (by simpa using f2);have hb:P.built t (parts.map fun (i,x)=>(i,a.eval x)).toList=some cells':=by
  unfold Program.built;rw [i1,u1];simp only [i3,u2];rw [ZmO,←hidx];exact e1
 have hrun:(execOp a.eval o).run P w= .ok (.value (.agg cells')) w:=by
  simp only [execOp,ho,Sem.run_bind,run_build (P:=P) w t _ cells' hb,Result.andThen_ok,Sem.run_pure]
 exact Ya hrun (hnext _ _ (Z2 h1 hd hn hok ⟨F',ZgX e2,e3,fun b hb=>f3 b (by simpa using e4 b hb)⟩))
theorem ZrE {w:World} {Pr:Nat->Nat->Prop} {γ:List Nat} {base k:Nat}:∀{ps:List (Nat×AV)} {i:Nat} {vs:List Value} {rows:List (List AV)} {F:List Nat},ZcO k i ps=some rows->RepL w Pr γ base (ps.map (·.2)) vs F->
  (∀v∈vs,v.cells.size=k)/\Reps w Pr γ base rows.flatten (vs.flatMap fun v=>v.cells.toList) F/\(∀x∈rows,x.length=k)/\rows.length=vs.length/\(ps.map (·.1)).zip vs=(vs.zipIdx i).map fun x=>(x.2,x.1)
 | [],i,_,rows,F,h,h1=>by
  cases h;cases h1;exact ⟨by simp, .nil,by simp,rfl,rfl⟩
 | (j,a)::ps,i,_,rows,F,h,h1=>by
  cases h1 with
  | @cons _ v Fa _ vs G ha h1=>
  simp only [ZcO] at h;cases hj:Nat.beq j i with
  |false=>rw [hj] at h;cases h
  |true=>
  obtain rfl:=Ud hj;rw [hj] at h;simp only [Ut] at h;obtain ⟨cs,hcs,h⟩:=ZG h;cases hr:ZcO k (j + 1) ps with
  |none=>rw [hr] at h;cases h
  |some rows'=>
  rw [hr] at h;cases h;obtain ⟨c1,c2,c3⟩:=ha.cellsN hcs;obtain ⟨r1,r2,r3,r4,r5⟩:=ZrE hr h1;exact ⟨by simpa [c1] using r1,by simpa using c2.append r2,by simpa [c3] using r3,by simp [r4],by simp [r5]⟩
theorem ZBA (hT:TOk P T) {t e k:Nat} {parts:Array (Nat×Operand)} (ho:o.op= .buildSlice t 0 parts) (ht:T t= .sl e k) (hp:parts.toList= [])
  (h:K (.val (.slc .own k [])) s=some r):∃sv s1,K sv s1=some r/\ZU P GE nt o s sv s1:=by
 refine ⟨_,_,h,fun D Pr0 w0 a w ⟨ow,Pr,B,γ,hi,hd,hn⟩ hok next Q hnext=> ?_⟩;obtain ⟨j,z,hj,hs,hk0,hby,hz,hzo,hek⟩:=JD hT ht;have hu:=VF hT ht;have hpe:parts= #[]:=by apply Mu;simpa using hp
 have hrun:(execOp a.eval o).run P w= .ok (.value (.slice (some ⟨w.heap.size,0,none⟩) 0 0)) (w.alloc (.cells #[] e)):=by
  have:(Instr.buildSlice t 0 #[]).run P w= .ok (.slice (some ⟨w.heap.size,0,none⟩) 0 0) (w.alloc (.cells #[] e)):=by
   simp [Instr.buildSlice,run_underlying hu,sizeOf,typeInfo,hj,newRow,Instr.fill,show Array.range 0= #[] from rfl]
  simp [execOp,ho,hpe,this]
 have hst:=Step.alloc (γ:=γ) hi.prl hi.owl (.cells #[] e) 0;exact Ya hrun (hnext _ _ (Z2 (hi.step hst rfl) hd hn hok ⟨[], .nil,UE,by simp⟩))
theorem ZBB (hT:TOk P T) {t e k n:Nat} {tk:Bool} {parts:Array (Nat×Operand)} (ho:o.op= .buildSlice t n parts) (ht:T t= .sl e k) (hsm:Nat.ble (n * k) 16777216=true)
  (h:Xi tk (fun _=>constA (T e)) parts.toList s (fun ps s'=>(ZcO k 0 ps).bind fun rows=>bif Nat.beq rows.length n && Nat.blt 0 n then K (.val (.slc .own k rows)) s' else none)=some r):
  ∃sv s1,K sv s1=some r/\ZU P GE nt o s sv s1:=by
 obtain ⟨as,s1,h,hr,hidx⟩:=Zhk (GE:=GE) (fun i=>CfOk.constA (T e)) h;obtain ⟨rows,hrows,h⟩:=ZG h;cases hq:Nat.beq rows.length n && Nat.blt 0 n with
 |false=>rw [hq] at h;cases h
 |true=>
 rw [hq] at h;simp only [Ut] at h;rw [Ub] at hq;have hrl:=Ud hq.1;have hn0:=Zah hq.2;refine ⟨_,_,h,fun D Pr0 w0 a w ⟨ow,Pr,B,γ,hi,hd,hn⟩ hok next Q hnext=> ?_⟩;obtain ⟨ow1,h1,_,F,f1,f2,f3,f4⟩:=hr.ok hi;obtain ⟨r1,r2,r3,r4,r5⟩:=ZrE hrows f1;obtain ⟨j,z,hj,hs,hk0,hby,hz,hzo,hek⟩:=JD hT ht;have hu:=VF hT ht;have hle:n * k<=16777216:=MI hsm;have hnk:0 < n * k:=Nat.mul_pos hn0 hk0
 let cells:Array Value:=(((parts.toList.map (·.2)).map a.eval).flatMap fun v=>v.cells.toList).toArray
 have hfill:Instr.fill (fun i=>some (i * j.size,j.size)) ((Array.range (n * j.size)).map (z.cells[· % z.cells.size]!)) (parts.map fun (i,x)=>(i,a.eval x)).toList=some cells:=by
  rw [ZmO,←hidx,r5,hs];exact Great.fill_whole hk0 _ _ r1 (by simp;rw [←hrl,r4];simp)
 have hrun:(execOp a.eval o).run P w= .ok (.value (.slice (some ⟨w.heap.size,0,none⟩) n n)) (w.alloc (.cells cells e)):=by
  have:=run_buildSlice (P:=P) w t e n _ cells j z hu hj hz (by rw [hs];omega) (by rw [hs];omega) hfill;simp only [execOp,ho,Sem.run_bind,this,Result.andThen_ok,Sem.run_pure]
 have hst:=Step.alloc (γ:=γ) h1.prl h1.owl (.cells cells e) (n * k);have hi2:=h1.step hst rfl;have hcl:cells.size=n * k:=by
  have:=r2.length_eq;rw [Yb r3,hrl] at this;simpa [cells] using this
 have hlt:∀b∈F,b < w.heap.size:=fun b hb=>h1.owl b _ (f3 b hb)
 have hrep:Rep (w.alloc (.cells cells e)) (XV Pr w.heap.size (n * k)) γ w0.heap.size (.slc .own k rows) (.slice (some ⟨w.heap.size,0,none⟩) n n) (w.heap.size::F):=by
  refine .own (cur:=cells) (e:=e) (heap_alloc_new w _) hcl (Uq _) ?_ hrl r3 (by rw [U4 (by rw [Ue,hcl];exact Uq _)]) ?_ (fun i=> ?_) hn0
  ·simp only [maxLen];have:n<=n * k:=Nat.le_mul_of_pos_right n hk0;omega
  ·refine r2.mono (Ext.alloc (fun _=>False) _ _ _) hst.inc hst.ge (Uq _) (by simp) fun b hb i=> ?_
   have:=hlt b hb;unfold XV;constructor
   ·rintro (h | ⟨rfl,_⟩)
    ·exact h
    ·omega
   ·exact .inl
  ·unfold XV;constructor
   ·rintro (h | ⟨_,h⟩)
    ·exact absurd (h1.prl _ _ h) (by omega)
    ·exact h
   ·exact fun h=> .inr ⟨rfl,h⟩
 refine Ya hrun (hnext _ _ (Z2 hi2 hd hn hok ⟨w.heap.size::F,hrep,?_,fun b hb=> ?_⟩))
 ·rw [List.nodup_cons];exact ⟨fun hm=>by have:=hlt _ hm;omega,f2⟩
 ·show (if b=w.heap.size then _ else _)=_;rcases List.mem_cons.1 hb with rfl |hb
  ·rw [Ul rfl]
  ·rw [Uf (by have:=hlt b hb;omega)];exact f3 b hb
end
end Go.Fx
