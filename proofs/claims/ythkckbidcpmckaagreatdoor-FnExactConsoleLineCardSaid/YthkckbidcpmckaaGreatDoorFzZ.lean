/- Functions: their results, their bodies, and all calls. -/
import Derived.Test.YthkckbidcpmckaaGreatDoorFzY
set_option linter.all false
namespace Go.Fx
section
variable {P:Program} {GE:Glob}
structure Fin (D:Nat->Prop) (Pr0:Nat->Nat->Prop) (w0 w:World) (ow:Nat->Option Lab) (Pr:Nat->Nat->Prop) (γ:List Nat) (ow':Nat->Option Lab) (Pr':Nat->Nat->Prop) (γ':List Nat) (g':GS) (as:List AV) (vs:List Value) (H:List Nat):Prop where
 oldp:∀b i,b < w0.heap.size->¬D b->(Pr' b i↔Pr0 b i)
 inc:∀b i,b < w0.heap.size->Pr0 b i->Pr' b i
 rep:RepL w Pr' γ' w0.heap.size as vs H
 nd:H.Nodup
 pd:∀b∈H,ow' b=some .pd
 npd:∀b∈H,ow b≠some .pd
 mon:∀b,ow b=some .pd->ow' b=some .pd
 prm:∀b i,Pr b i->Pr' b i
 prs:∀b i,ow b=some .pd->(Pr' b i↔Pr b i)
 gm:∀i b:Nat,γ[i]? =some b->γ'[i]? =some b
 gob:∀id r,g'[id]? =some r->∃b,γ'[id]? =some b/\Mem w Pr' γ' w0.heap.size ow' b (.g id) (.gb id) false r
 glen:γ'.length=g'.length
 prl:∀b i,Pr' b i->b < w.heap.size
 owl:∀b l,ow' b=some l->b < w.heap.size
 owD:∀b l,ow' b=some l->b < w0.heap.size->D b
theorem Fin.cons {D:Nat->Prop} {Pr0:Nat->Nat->Prop} {w0 w:World} {ow ow1:Nat->Option Lab} {Pr:Nat->Nat->Prop} {γ:List Nat} {ow':Nat->Option Lab} {Pr':Nat->Nat->Prop} {γ':List Nat} {g':GS} {as:List AV} {vs:List Value} {H F:List Nat} {a:AV} {v:Value}
  (h:Fin D Pr0 w0 w ow1 Pr γ ow' Pr' γ' g' as vs H) (hr:Rep w Pr γ w0.heap.size a v F) (hn:F.Nodup) (h1:∀b∈F,ow1 b=some .pd) (h2:∀b∈F,ow b≠some .pd) (h3:∀b,ow b=some .pd->ow1 b=some .pd):
  Fin D Pr0 w0 w ow Pr γ ow' Pr' γ' g' (a::as) (v::vs) (F ++ H) where
 oldp:=h.oldp
 inc:=h.inc
 rep:= .cons (hr.mono (Ext.refl (fun _=>False) Pr w) (fun b i _ hp=>h.prm b i hp) h.gm (Uq _) (by simp) fun b hb i=>h.prs b i (h1 b hb)) h.rep
 nd:=List.nodup_append.2 ⟨hn,h.nd,fun x hx y hy e=>by subst e;exact h.npd x hy (h1 x hx)⟩
 pd b hb:=(List.mem_append.1 hb).elim (fun hb=>h.mon b (h1 b hb)) (h.pd b)
 npd b hb:=(List.mem_append.1 hb).elim (h2 b) fun hb e=>h.npd b hb (h3 b e)
 mon b hb:=h.mon b (h3 b hb)
 prm:=h.prm
 prs b i hb:=h.prs b i (h3 b hb)
 gm:=h.gm
 gob:=h.gob
 glen:=h.glen
 prl:=h.prl
 owl:=h.owl
 owD:=h.owD
def Kx (tmps:Array Value):ResultVar->Sem Value
 | .tmp t=>pure (tmps.getD t undef)
 | .cell a t=>do loadVar t (←asAddr (tmps.getD a undef))
theorem Zng {E:Ctx} (hT:TOk P E.T) {D:Nat->Prop} {Pr0:Nat->Nat->Prop} {w0:World} {a:Act} {w:World} {B:Nat->Nat}:∀{rs:List ResultVar} {s:St} {as:List AV} {g':GS},Zbv E rs s=some (as,g')->
  ∀{ow:Nat->Option Lab} {Pr:Nat->Nat->Prop} {γ:List Nat},Inv GE D Pr0 w0 s (ZP a) w ow Pr B γ->∃vs ow' Pr' γ' H,(rs.mapM (Kx a.tmps)).run P w= .ok vs w/\Fin D Pr0 w0 w ow Pr γ ow' Pr' γ' g' as vs H
 | [],s,as,g',h,ow,Pr,γ,hi=>by
  cases h;exact ⟨[],ow,Pr,γ,[],by simp,⟨hi.oldp,hi.inc, .nil,UE,by simp,by simp,fun _ h=>h,fun _ _ h=>h,fun _ _ _=>Ms,fun _ _ h=>h,hi.gob,hi.glen,hi.prl,hi.owl,hi.owD⟩⟩
 | .tmp t::r,s,as,g',h,ow,Pr,γ,hi=>by
  have hv:(Kx a.tmps (.tmp t)).run P w= .ok (ZP a t) w:=rfl;simp only [Zbv] at h;split at h
  ·rename_i av hen;rw [ME] at h;obtain ⟨⟨as',g2⟩,h1,h2⟩:=h;cases h2;obtain ⟨ow1,F,i1,i2,i3,i4,i5,i6⟩:=hi.take hen;obtain ⟨vs,ow',Pr',γ',H,e1,e2⟩:=Zng hT h1 i1;exact ⟨ZP a t::vs,ow',Pr',γ',F ++ H,by simp [MU,hv,e1],e2.cons i2 i3 i4 i5 i6⟩
  ·rename_i key hen;split at h
   ·rename_i _ ob hL;cases hz:ob.frz with
    |true=>rw [hz] at h;cases h
    |false=>
     rw [hz] at h;cases h;have hs:=hi.slot t;rw [hen] at hs;obtain ⟨ob',A,cap,e1,e2,e3⟩:=hs;rw [hL] at e1;cases e1;by_cases hne0:ob.rows= []
     ·have hcap:cap=0:=by
       rcases e3 with e3 |e3
       ·exact e3.2
       ·have:=e3.2.1;rw [hne0] at this;simp at this
      subst hcap;rw [hne0] at e2;refine ⟨[ZP a t],ow,Pr,γ,[],by simp [MU,hv],hi.oldp,hi.inc,?_,UE,by simp,by simp,fun _ h=>h,fun _ _ h=>h,fun _ _ _=>Ms,fun _ _ h=>h,hi.gob,hi.glen,hi.prl,hi.owl,hi.owD⟩;rw [e2,hne0];exact RepL.cons (F:= []) (G:= []) .nil .nil
     obtain ⟨⟨⟨cur,e,m1,mz,⟨F,m2,m3,m4⟩,m5⟩,m6⟩,m7,m8⟩:=hi.memObj hL hne0;obtain ⟨rfl,hn0,hnc,hcm,cur0,e0,q1,q2⟩:A=some ⟨B key,0,none⟩/\0 < ob.rows.length/\ob.rows.length<=cap/\cap<=maxLen/\∃(cur:Array Value) (e:TypeId),w.heap[B key]? =some (.cells cur e (0,0))/\cur.size=cap * ob.k:=by
      rcases e3 with e3 |e3
      ·exact absurd (Us e3.1) hne0
      ·exact e3
     rw [m1] at q1;cases q1;have hi2:=hi.freeze hL hne0 m1;have hbF:B key∉F:=fun hm=>by
      have:=m4 _ hm;rw [m6] at this;cases this
     have hlab:∀b l,l≠ .o key->l≠ .bk key->ow b=some l->(if b=B key\/b∈F then some Lab.pd else ow b)=some l:=fun b l h1 h2 hb=>by
      rw [Uf ?_]
      ·exact hb
      ·rintro (rfl |hm)
       ·rw [m6] at hb;exact h2 (Un hb).symm
       ·rw [m4 b hm] at hb;exact h1 (Un hb).symm
     have hget:∀b l,(if b=B key\/b∈F then some Lab.pd else ow b)=some l->∃l',ow b=some l':=fun b l hb=>by
      split at hb
      ·rename_i hm;rcases hm with rfl |hm
       ·exact ⟨_,m6⟩
       ·exact ⟨_,m4 b hm⟩
      ·exact ⟨_,hb⟩
     have hsame:∀b,b≠B key->∀i,XV Pr (B key) ob.rows.flatten.length b i↔Pr b i:=fun b hb i=>⟨fun h=>h.elim id fun ⟨e,_⟩=>absurd e hb, .inl⟩
     refine ⟨[ZP a t],fun b=>if b=B key\/b∈F then some .pd else ow b,XV Pr (B key) ob.rows.flatten.length,γ,B key::F,by simp [MU,hv],hi2.oldp,hi2.inc,?_,?_,fun b hb=> ?_,fun b hb=> ?_,fun b hb=> ?_,fun b i h=> .inl h,fun b i hb=> ?_,fun _ _ h=>h,fun id rr hr=> ?_,hi2.glen,hi2.prl,fun b l hb=> ?_,fun b l hb hlt=> ?_⟩
     ·rw [e2];have hrep:Rep w (XV Pr (B key) ob.rows.flatten.length) γ w0.heap.size (.slc .own ob.k ob.rows) (.slice (some ⟨B key,0,none⟩) ob.rows.length cap) (B key::F):=by
       refine .own m1 q2 hnc hcm rfl m7 (vs:=cur.toList.take ob.rows.flatten.length) (by rw [Yb m7]) ?_ (fun i=> ?_) hn0
       ·exact m2.mono (Ext.refl (fun _=>False) Pr w) (fun _ _ _ h=> .inl h) (fun _ _ h=>h) (Uq _) (by simp) fun b hb=>hsame b fun e=>hbF (e ▸ hb)
       ·rw [←Yb m7];constructor
        ·rintro (h | ⟨_,h⟩)
         ·have:=((m5 i).1 h).1;rw [hz] at this;cases this
         ·exact h
        ·exact fun h=> .inr ⟨rfl,h⟩
      simpa using RepL.cons hrep .nil
     ·exact List.nodup_cons.2 ⟨hbF,m3⟩
     ·exact Ul ((List.mem_cons.1 hb).elim .inl .inr)
     ·rcases List.mem_cons.1 hb with rfl |hb
      ·rw [m6];simp
      ·rw [m4 b hb];simp
     ·exact hlab b _ (by simp) (by simp) hb
     ·exact hsame b (fun e=>by subst e;rw [m6] at hb;cases hb) i
     ·obtain ⟨b,hb,⟨⟨c',e',n1,nz,⟨G,g1,g2,g3⟩,n2⟩,n3⟩⟩:=hi2.gob id rr hr;exact ⟨b,hb,⟨⟨c',e',n1,nz,⟨G,g1,g2,fun x hx=>hlab x _ (by simp) (by simp) (g3 x hx)⟩,n2⟩,hlab _ _ (by simp) (by simp) n3⟩⟩
     ·obtain ⟨l',hl'⟩:=hget b l hb;exact hi.owl b l' hl'
     ·obtain ⟨l',hl'⟩:=hget b l hb;exact hi.owD b l' hl' hlt
   ·cases h
  ·rename_i key hen;split at h
   ·rename_i _ ob hL;split at h
    ·rename_i cs hrows;cases hz:ob.frz with
     |true=>rw [hz] at h;cases h
     |false=>
      rw [hz] at h;cases h;have hs:=hi.slot t;rw [hen] at hs;obtain ⟨ob',e1,e2⟩:=hs;rw [hL] at e1;cases e1;obtain ⟨⟨⟨cur,e,m1,mz,⟨F,m2,m3,m4⟩,m5⟩,m6⟩,m7,m8⟩:=hi.memObj hL (by rw [hrows];simp);rw [hrows] at m2 mz m5;simp only [UM,Fm,UK] at m2 mz m5;have hlab:∀b l,l≠ .o key->l≠ .bk key->ow b=some l->(if b=B key then some (Lab.gb s.G.length) else if b∈F then some (Lab.g s.G.length) else ow b)=some l:=fun b l h1 h2 hb=>by
       rw [Uf fun e=> ?_,Uf fun hm=> ?_]
       ·exact hb
       ·rw [m4 b hm] at hb;exact h1 (Un hb).symm
       ·subst e;rw [m6] at hb;exact h2 (Un hb).symm
      have hbF:B key∉F:=fun hm=>by
       have:=m4 _ hm;rw [m6] at this;cases this
      have hget:∀b l,(if b=B key then some (Lab.gb s.G.length) else if b∈F then some (Lab.g s.G.length) else ow b)=some l->∃l',ow b=some l':=fun b l hb=>by
       split at hb
       ·rename_i e;subst e;exact ⟨_,m6⟩
       ·split at hb
        ·rename_i hm;exact ⟨_,m4 b hm⟩
        ·exact ⟨_,hb⟩
      have hgm:∀i b:Nat,γ[i]? =some b->(γ ++ [B key])[i]? =some b:=fun i b hb=>by
       have:i < γ.length:=by
        rcases U2 i γ.length with h |h
        ·exact h
        ·rw [UP h] at hb;cases hb
       rw [UZ this];exact hb
      have hgi:(γ ++ [B key])[s.G.length]? =some (B key):=by rw [←hi.glen];simp
      refine ⟨[ZP a t],fun b=>if b=B key then some (.gb s.G.length) else if b∈F then some (.g s.G.length) else ow b,Pr,γ ++ [B key],[],by simp [MU,hv],hi.oldp,hi.inc,?_,UE,by simp,by simp,fun b hb=> ?_,fun b i h=>h,fun b i hb=>Ms,hgm,fun id rr hr=> ?_,by simp [hi.glen],hi.prl,fun b l hb=> ?_,fun b l hb hlt=> ?_⟩
      ·rw [e2];have hrep:Rep w Pr (γ ++ [B key]) w0.heap.size (.gp s.G.length 0) (.pointer (some ⟨B key,0 * ob.k + 0,none⟩)) []:=by
        simp only [Nat.zero_mul,MZ];exact .gp hgi
       exact RepL.cons (F:= []) (G:= []) hrep .nil
      ·exact hlab b _ (by simp) (by simp) hb
      ·rcases U2 id s.G.length with hlt |hge
       ·rw [UZ hlt] at hr;obtain ⟨b,hb,⟨⟨c',e',n1,nz,⟨G,g1,g2,g3⟩,n2⟩,n3⟩⟩:=hi.gob id rr hr;exact ⟨b,hgm _ _ hb,⟨⟨c',e',n1,nz,⟨G,g1.mono (Ext.refl (fun _=>False) Pr w) (fun _ _ _ h=>h) hgm (Uq _) (by simp) fun _ _ _=>Ms,g2,fun x hx=>hlab x _ (by simp) (by simp) (g3 x hx)⟩,n2⟩,hlab _ _ (by simp) (by simp) n3⟩⟩
       ·have hid:id=s.G.length:=by
         rcases U2 s.G.length id with h |h
         ·rw [UP (by simp;omega)] at hr;cases hr
         ·omega
        subst hid;simp at hr;subst hr;refine ⟨B key,hgi,⟨⟨cur,e,m1,mz,⟨F,m2.mono (Ext.refl (fun _=>False) Pr w) (fun _ _ _ h=>h) hgm (Uq _) (by simp) fun _ _ _=>Ms,m3,fun x hx=> ?_⟩,fun i=>by rw [←hz];exact m5 i⟩,Ul rfl⟩⟩;show (if x=B key then _ else if x∈F then _ else _)=_;rw [Uf (fun e:x=B key=>hbF (e ▸ hx)),Ul hx]
      ·obtain ⟨l',hl'⟩:=hget b l hb;exact hi.owl b l' hl'
      ·obtain ⟨l',hl'⟩:=hget b l hb;exact hi.owD b l' hl' hlt
    ·cases h
   ·cases h
  ·cases h
 | .cell t ty::r,s,as,g',h,ow,Pr,γ,hi=>by
  simp only [Zbv] at h;split at h
  ·rename_i key hen;split at h
   ·rename_i ob hL;split at h
    ·rename_i cs hrows;obtain ⟨hok,h⟩:=ZhF h;obtain ⟨av,hav,h⟩:=ZG h;rw [ME] at h;obtain ⟨⟨as',g2⟩,h1,h2⟩:=h;cases h2;have hs:=hi.slot t;rw [hen] at hs;obtain ⟨ob',e1,e2⟩:=hs;rw [hL] at e1;cases e1;simp only [Nat.zero_mul,MZ] at e2;obtain ⟨⟨⟨cur,e,m1,mz,⟨F,m2,m3,m4⟩,m5⟩,m6⟩,m7,m8⟩:=hi.memObj hL (by rw [hrows];simp);have m2':=m2;rw [hrows] at m2';simp only [UM,Fm,UK] at m2';obtain ⟨v,Fc,Fd,l1,rfl,l3⟩:=ZbB hT (ad:=⟨B key,0,none⟩) hok rfl (fun j u hj=>by
      rw [X8 m1];simpa using Qu hj) m2' hav
     have hinv:=hi.takeObj (rows:= [clrs cs]) (F:= []) (M:=Fc) hL m1 (by simpa [Xy] using m2'.clr) UE (by simp) (fun b hb=>m4 b (by simp [hb])) (by simp) (by rw [hrows];rfl) (fun r hr=>by
      simp only [Ml] at hr;subst hr;rw [Xy];exact m7 cs (by rw [hrows];simp))
     obtain ⟨vs,ow',Pr',γ',H,q1,q2⟩:=Zng hT h1 hinv;have hv:(Kx a.tmps (.cell t ty)).run P w= .ok v w:=by
      have e3:a.tmps.getD t undef= .pointer (some ⟨B key,0,none⟩):=e2;have:(loadVar ty ⟨B key,0,none⟩).run P w= .ok v w:=by simpa [Instr.loadAt,Instr.sureAddr] using l1
      simp [Kx,e3,asAddr,this]
     refine ⟨v::vs,ow',Pr',γ',Fc ++ H,by simp [MU,hv,q1],q2.cons l3 (List.nodup_append.1 m3).1 (fun b hb=>Ul hb) (fun b hb=>by rw [m4 b (by simp [hb])];simp) fun b hb=> ?_⟩;unfold Yr;rw [hb];simp
    ·cases h
   ·cases h
  ·cases h
end
end Go.Fx
