/- Regions: operations in the order of the text, and in any order that their edges allow. -/
import Derived.Test.YthkckbidcpmckaaGreatDoorFzU
import Derived.Tactics
import Derived.Orders
set_option linter.all false
namespace Go.Fx
section
variable {P:Program} {GE:Glob} {β:Type} {r:β} {E:Ctx} {id:Nat} {ops:Array Oper}
theorem ZmX {sv:SV} {b:Bool} (h:svA sv= .lit (.bool b)):sv=XS b:=by
 cases sv with
 |val a=>have h':a= .lit (.bool b):=h;rw [h'];rfl
 | _=>cases h
theorem ZmY {nt:Nat} {kp:Bool} {d:Option Nat} (h:okE nt kp d=true) (hk:GE.v0≠none->kp=true):okG GE nt d:=by
 cases d with
 |none=>exact ⟨rfl,fun _ h=>by cases h⟩
 |some d=>
  simp only [okE,Ub,UH,Ff] at h;refine ⟨h.1,fun h0 e=> ?_⟩;cases e;rcases h.2 with h2 |h2
  ·rw [hk h0] at h2;cases h2
  ·cases h2
theorem Zr0 {α:Type} (f:Nat->α) (t:Nat):upd f t (f t)=f:=by
 funext i
 by_cases hi:i=t
 ·subst hi;exact ZE _ _ _
 ·exact ZA _ _ hi
theorem ZmZ {γ:Type} {v:AV} {x y:Option γ} {z:γ} (h:Zbm v x y=some z):∃b:Bool,v= .lit (.bool b)/\(bif b then x else y)=some z:=by
 unfold Zbm cnd at h;split at h
 ·exact ⟨_,rfl,h⟩
 ·cases h
theorem Zhs (hT:TOk P E.T) (hC:Xq P GE.ng GE.G0 E.C) (hU:Qv P GE.ng GE.G0 E.cu/\(GE.v0≠none->E.kp=true)) {i:Nat} {o:Oper} {s:St} {K:St->Option β} (h:ZC E id ops i o s K=some r):
  ∃s1,K s1=some r/\∀D Pr0 w0 a w,At GE D Pr0 w0 E.nt s a w->∀(next:Act->World->Prop) Q,(∀a' w',At GE D Pr0 w0 E.nt s1 a' w'->next a' w')->
   if Region.wanted o (yielded ops a.tmps)=true then o.wp P a w next Q\/(o.asks P a w/\LetsOut Q) else next (a.put o.dst undef) w:=by
 unfold ZC at h;cases hg:o.guard with
 |none=>
  rw [hg] at h;simp only at h;cases hok:okE E.nt E.kp o.dst with
  |false=>rw [hok] at h;cases h
  |true=>
   rw [hok] at h;obtain ⟨sv,s1,h1,h2⟩:=ZrZ hT hC hU.1 h;refine ⟨_,h1,fun D Pr0 w0 a w hat next Q hnext=> ?_⟩;rw [Ul (by simp [Region.wanted,hg])];exact .inl (h2 D Pr0 w0 a w hat (ZmY hok hU.2) next Q hnext)
 |some jw=>
  obtain ⟨j,want⟩:=jw;rw [hg] at h;simp only at h;split at h
  ·cases h
  ·rename_i t ht;cases hok:okE E.nt E.kp o.dst with
   |false=>rw [hok] at h;cases h
   |true=>
    rw [hok] at h;simp only [Ui,Ur] at h;have junkAt:∀{D:Nat->Prop} {Pr0:Nat->Nat->Prop} {w0:World} {a:Act} {w:World},At GE D Pr0 w0 E.nt s a w->At GE D Pr0 w0 E.nt (put s o.dst (.val Xh)) (a.put o.dst undef) w:=by
     intro D Pr0 w0 a w hat;obtain ⟨ow,Pr,B,γ,hi,hd,hn⟩:=hat;exact Z2 hi hd hn (ZmY hok hU.2) ⟨[], .tup .nil,UE,by simp⟩
    split at h
    ·rename_i hen;refine ⟨_,h,fun D Pr0 w0 a w hat next Q hnext=> ?_⟩;have hw:Region.wanted o (yielded ops a.tmps)=false:=by
      obtain ⟨ow,Pr,B,γ,hi,_⟩:=hat;have hs:=hi.slot t;rw [hen] at hs;obtain ⟨F,h1,_⟩:=hs;have hv:a.tmps.getD t undef= .tuple #[]:=by
       generalize hq:ZP a t=v at h1;cases h1 with
       |tup h2=>cases h2;exact hq
      have:yielded ops a.tmps j=none:=by
       unfold yielded;rw [ht];simp only [UG];cases hq:a.tmps[t]? with
       |none=>rfl
       |some v=>
        have:v= .tuple #[]:=by simpa [My,hq] using hv
        rw [this]
      simp only [Region.wanted,hg,this];cases want <;> rfl
     rw [hw];exact hnext _ _ (junkAt hat)
    obtain ⟨b,hb,h⟩:=ZmZ h;have hen:=ZmX hb;have hself:upd s.env t (XS b)=s.env:=by rw [←hen];exact Zr0 _ _
    have hy:∀{D:Nat->Prop} {Pr0:Nat->Nat->Prop} {w0:World} {a:Act} {w:World},At GE D Pr0 w0 E.nt s a w->Region.wanted o (yielded ops a.tmps)=(b==want):=by
     intro D Pr0 w0 a w ⟨ow,Pr,B,γ,hi,_⟩;have hs:=hi.slot t;rw [hen] at hs;obtain ⟨F,h1,_⟩:=hs;have hv:a.tmps.getD t undef= .bool b:=Zaj h1;have ht2:a.tmps[t]? =some (.bool b):=by
      cases hq:a.tmps[t]? with
      |none=>simp [My,hq] at hv;cases hv
      |some v=>simp [My,hq] at hv;rw [hv]
     have:yielded ops a.tmps j=some b:=by simp [yielded,ht,ht2]
     simp only [Region.wanted,hg,this];cases b <;> cases want <;> rfl
    have hst:∀b',b'=b->({s with env:=upd s.env t (XS b')}:St)=s:=fun b' e=>by subst e;rw [hself]
    have run:∀{K':SV->St->Option β},opR E id i o s K'=some r->b=want->∃sv s1,K' sv s1=some r/\∀D Pr0 w0 a w,At GE D Pr0 w0 E.nt s a w->∀(next:Act->World->Prop) Q,(∀a' w',At GE D Pr0 w0 E.nt (put s1 o.dst sv) a' w'->next a' w')->
      if Region.wanted o (yielded ops a.tmps)=true then o.wp P a w next Q\/(o.asks P a w/\LetsOut Q) else next (a.put o.dst undef) w:=by
     intro K' hk he;obtain ⟨sv,s1,h1,h2⟩:=ZrZ hT hC hU.1 hk;refine ⟨sv,s1,h1,fun D Pr0 w0 a w hat next Q hnext=> ?_⟩;rw [Ul (by rw [hy hat,he];simp)];exact .inl (h2 D Pr0 w0 a w hat (ZmY hok hU.2) next Q hnext)
    have skip:b≠want->∀D Pr0 w0 a w,At GE D Pr0 w0 E.nt s a w->∀(next:Act->World->Prop) Q,(∀a' w',At GE D Pr0 w0 E.nt (put s o.dst (.val Xh)) a' w'->next a' w')->
      if Region.wanted o (yielded ops a.tmps)=true then o.wp P a w next Q\/(o.asks P a w/\LetsOut Q) else next (a.put o.dst undef) w:=by
     intro hne D Pr0 w0 a w hat next Q hnext;rw [Uf (by rw [hy hat];simpa using hne)];exact hnext _ _ (junkAt hat)
    cases b with
    |true=>
     simp only [Ut] at h;rw [hst true rfl] at h;cases want with
     |true=>obtain ⟨sv,s1,h1,h2⟩:=run h rfl;exact ⟨_,h1,h2⟩
     |false=>exact ⟨_,h,skip (by simp)⟩
    |false=>
     simp only [Ur] at h;rw [hst false rfl] at h;cases want with
     |true=>exact ⟨_,h,skip (by simp)⟩
     |false=>obtain ⟨sv,s1,h1,h2⟩:=run h rfl;exact ⟨_,h1,h2⟩
theorem Zr1 (hT:TOk P E.T) (hC:Xq P GE.ng GE.G0 E.C) (hU:Qv P GE.ng GE.G0 E.cu/\(GE.v0≠none->E.kp=true)) {K:St->Option β}:∀{l:List Oper} {i:Nat} {s:St},Zeu E id ops i l s K=some r->
  ∃s1,K s1=some r/\∀D Pr0 w0 a w,At GE D Pr0 w0 E.nt s a w->∀Q:Exit->Act->World->Prop,(∀a' w',At GE D Pr0 w0 E.nt s1 a' w'->Q .normal a' w')->wpList P ops Q l a w
 | [],i,s,h=>⟨s,h,fun D Pr0 w0 a w hat Q hq=>hq _ _ hat⟩
 |o::l,i,s,h=>by
  obtain ⟨s1,h1,h2⟩:=Zhs hT hC hU h;obtain ⟨s2,h3,h4⟩:=Zr1 hT hC hU h1;refine ⟨s2,h3,fun D Pr0 w0 a w hat Q hq=> ?_⟩;exact h2 D Pr0 w0 a w hat _ Q fun a' w' hat'=>h4 D Pr0 w0 a' w' hat' Q hq
theorem Zr2 (hT:TOk P E.T) (hC:Xq P GE.ng GE.G0 E.C) (hU:Qv P GE.ng GE.G0 E.cu/\(GE.v0≠none->E.kp=true)) {K:St->Option β}:∀{l:List Oper} {i:Nat} {s:St},Zeu E id ops i l s K=some r->
  ∃s1,K s1=some r/\∀D Pr0 w0 a w,At GE D Pr0 w0 E.nt s a w->∀(Q:Exit->Act->World->Prop) (ys:List Oper),(∀a' w',At GE D Pr0 w0 E.nt s1 a' w'->wpList P ops Q ys a' w')->wpList P ops Q (l ++ ys) a w
 | [],i,s,h=>⟨s,h,fun D Pr0 w0 a w hat Q ys hq=>hq _ _ hat⟩
 |o::l,i,s,h=>by
  obtain ⟨s1,h1,h2⟩:=Zhs hT hC hU h;obtain ⟨s2,h3,h4⟩:=Zr2 hT hC hU h1;refine ⟨s2,h3,fun D Pr0 w0 a w hat Q ys hq=> ?_⟩;exact h2 D Pr0 w0 a w hat _ Q fun a' w' hat'=>h4 D Pr0 w0 a' w' hat' Q ys hq
end
end Go.Fx
