/- Every operation; a region's operations in the order of the text. -/
import Derived.Test.YthkckbidcpmckaaGreatDoorFzT5
set_option linter.all false
namespace Go.Fx
section
variable {P:Program} {GE:Glob} {nt:Nat} {β:Type} {K:SV->St->Option β} {r:β} {o:Oper} {s:St}
theorem ZbC {E:Ctx} (hT:TOk P E.T) (hC:Xq P GE.ng GE.G0 E.C) {tk mo:Bool} {vr:Nat} (h:opK E tk mo vr o s K=some r):∃sv s1,K sv s1=some r/\ZU P GE nt o s sv s1:=by
 unfold opK at h;simp only [Ju,Jx,Jv,Jw,Q8] at h;cases ho:o.op with
 |move x=>rw [ho] at h;exact Zrn (.inl ho) (CfOk.constA _) h
 |assign x=>rw [ho] at h;exact Zrn (.inr ho) (CfOk.constA _) h
 |pick c x y=>rw [ho] at h;exact ZAS (CfOk.constA _) ho h
 |alloc t=>
  rw [ho] at h;cases hk:(E.T t).ok with
  |false=>simp [hk] at h
  |true=>exact ZBr hT ho hk (by simpa [hk] using h)
 |box t x=>
  rw [ho] at h;cases hk:(E.T t).ok with
  |false=>simp [hk] at h
  |true=>simp only [hk,Ui,Ur] at h;exact ZBs (T:=E.T) (CfOk.constA (E.T t)) ho h
 |build t parts=>
  rw [ho] at h;simp only at h;split at h
  ·rename_i cz offs ht;exact ZBy hT ho ht h
  ·rename_i n k cz ht;exact ZBz hT ho ht h
  ·cases h
 |buildSlice t n parts=>
  rw [ho] at h;simp only at h;split at h
  ·rename_i e k ht;cases h0:Nat.beq n 0 && parts.toList.isEmpty with
   |true=>
    rw [h0] at h;rw [Ub] at h0;obtain rfl:=Ud h0.1;exact ZBA hT ho ht (by simpa using h0.2) h
   |false=>
   rw [h0] at h;cases hk:Nat.ble (n * k) 16777216 with
   |false=>simp [hk] at h
   |true=>exact ZBB hT ho ht hk (by simpa [hk] using h)
  ·cases h
 |load t x=>
  rw [ho] at h;cases hk:(E.T t).ok with
  |false=>simp [hk] at h
  |true=>exact ZBn hT ho hk (by simpa [hk] using h)
 |store t x v=>
  rw [ho] at h;cases hk:(E.T t).ok with
  |false=>simp [hk] at h
  |true=>simp only [hk,Ui,Ur] at h;exact ZBo hT (CfOk.constA (E.T t)) ho hk h
 |nilCheck x=>rw [ho] at h;exact ZA7 ho h
 |binOp op t x y t'=>
  rw [ho] at h;simp only at h;cases hy:ZcP y with
  |true=>
   rw [hy] at h;simp only [Ut] at h;split at h
   ·rename_i e k ht;exact ZAX hT ht ho hy h
   ·cases h
  |false=>
   rw [hy] at h;exact ZAQ hT ho h
 |unOp op t x=>rw [ho] at h;exact ZAR ho h
 |convert src dst x=>rw [ho] at h;exact ZBl hT ho h
 |makeFunc fn first captured=>
  rw [ho] at h;cases fn with
  |func f=>
   simp only at h;cases hf:first.isEmpty with
   |false=>rw [hf] at h;cases h
   |true=>rw [hf] at h;exact ZBC ho hf h
  | _=>cases h
 |makeSlice t l c=>
  rw [ho] at h;simp only at h;split at h
  ·rename_i e k ht;simp only [ifA] at h;exact ZBu hT ho ht h
  ·cases h
 |slice t x lo hi mx=>rw [ho] at h;exact ZBh hT ho h
 |fieldAddr t x f=>
  rw [ho] at h;simp only at h;split at h
  ·rename_i cz offs ht;split at h
   ·rename_i off sz hf;exact ZA4 hT ho ht hf h
   ·cases h
  ·cases h
 |indexAddr t x i=>
  rw [ho] at h;simp only at h;split at h
  ·rename_i e k ht;exact ZA5 hT (CfOk.constA _) ho ht h
  ·rename_i n k cz ht;exact ZA6 hT ho ht h
  ·cases h
 |index t x i=>
  rw [ho] at h;simp only at h;split at h
  ·rename_i b ht;exact ZBa hT ho ht h
  ·cases h
 |field t x f=>
  rw [ho] at h;cases x with
  |tmp n=>
   simp only at h;split at h
   ·rename_i cz offs ht;split at h
    ·rename_i off sz hf;split at h
     ·rename_i cs hen;exact ZA8 hT ho ht hf hen h
     ·cases h
    ·cases h
   ·cases h
  | _=>cases h
 |extract x i=>
  rw [ho] at h;cases x with
  |tmp n=>exact ZA9 ho h
  | _=>cases h
 |call c=>
  rw [ho] at h;simp only at h;cases hc:c.callee with
  |builtin b=>
   rw [hc] at h;simp only at h;cases b with
   |len=>
    generalize hx:c.args.toList=xs at h;generalize hts:c.argTypes.toList=ts at h
    match xs,ts,h with
    | [x],t::ts,h=>exact ZA0 hT rfl ho hc hx hts h
    | [],_,h=>cases h
    | _::_::_,_,h=>cases h
    | [x],[],h=>cases h
   |append=>
    generalize hx:c.args.toList=xs at h;generalize hts:c.argTypes.toList=ts at h
    match xs,ts,h with
    | [x,y],[t,t'],h=>
     simp only [QM,Zl5] at h;cases htt:Nat.beq t t' with
     |false=>rw [htt] at h;cases h
     |true=>
      rw [htt] at h;simp only [Ui,Ur] at h;split at h
      ·rename_i e k ht;exact ZBD hT (CfOk.constA _) (CfOk.constA _) ho hc hx hts htt ht h
      ·cases h
    | [],_,h=>cases h
    | [_],_,h=>cases h
    | _::_::_::_,_,h=>cases h
    | [_,_],[],h=>cases h
    | [_,_],[_],h=>cases h
    | [_,_],_::_::_::_,h=>cases h
   |min=>
    generalize hx:c.args.toList=xs at h
    match xs,h with
    | [x,y],h=>exact ZBb ho hc hx h
    | [],h=>cases h
    | [_],h=>cases h
    | _::_::_::_,h=>cases h
   |max=>
    generalize hx:c.args.toList=xs at h
    match xs,h with
    | [x,y],h=>exact ZBc ho hc hx h
    | [],h=>cases h
    | [_],h=>cases h
    | _::_::_::_,h=>cases h
   | _=>cases h
  |value x=>
   rw [hc] at h;cases x with
   |func f=>exact ZBG hC ho hc h
   |tmp n=>exact ZBH hC ho hc h
   | _=>cases h
  | _=>rw [hc] at h;cases h
 | _=>rw [ho] at h;cases h
theorem Slot.le {w0 w:World} {Pr:Nat->Nat->Prop} {γ:List Nat} {ow:Nat->Option Lab} {B:Nat->Nat} {L:Nat->Option LObj} {l:Lab} {a b:AV} {v:Value} (hle:Le a b) (h:Slot w Pr γ w0.heap.size ow B L l (.val a) v):Slot w Pr γ w0.heap.size ow B L l (.val b) v:=by
 obtain ⟨F,h1,h2,h3⟩:=h;obtain ⟨F',hs,h4⟩:=hle.rep h1;exact ⟨F',h4,h2.sublist hs,fun b hb=>h3 b (hs.subset hb)⟩
theorem Inv.leSlot {D:Nat->Prop} {Pr0:Nat->Nat->Prop} {w0:World} {tm:Nat->Value} {w:World} {ow:Nat->Option Lab} {Pr:Nat->Nat->Prop} {B:Nat->Nat} {γ:List Nat} {d:Nat} {a b:AV}
  (h:Inv GE D Pr0 w0 s tm w ow Pr B γ) (hd:s.env d= .val a) (hle:Le a b):Inv GE D Pr0 w0 {s with env:=upd s.env d (.val b)} tm w ow Pr B γ:=by
 refine h.forget (d:=d) ?_;have:=h.slot d;rw [hd] at this;exact this.le hle
theorem At.leSlot {D:Nat->Prop} {Pr0:Nat->Nat->Prop} {w0:World} {a:Act} {w:World} {d:Nat} {x y:AV} (h:At GE D Pr0 w0 nt s a w) (hd:s.env d= .val x) (hle:Le x y):At GE D Pr0 w0 nt {s with env:=upd s.env d (.val y)} a w:=by
 obtain ⟨ow,Pr,B,γ,h1,h2⟩:=h;exact ⟨ow,Pr,B,γ,h1.leSlot hd hle,h2⟩
theorem ZCj {T:Nat->TD} {x:Operand} {cf:Value->Option AV} (hcf:CfOk cf) (ho:o.op= .assign x)
  (h:rd true cf x s (fun v s1=>match v with
   | .val (.slc .unq k xs)=>K (.val (.slc .own k xs)) s1
   | _=>none)=some r):∃sv s1,K sv s1=some r/\ZU P GE nt o s sv s1:=by
 obtain ⟨sv,s1,h,hrx⟩:=Xj (GE:=GE) hcf h;split at h
 case h_2=>cases h
 rename_i k xs;refine ⟨_,_,h,fun D Pr0 w0 a w ⟨ow,Pr,B,γ,hi,hd,hn⟩ hok next Q hnext=> ?_⟩;obtain ⟨ow1,h1,h2,F,f1,f2,f3,f4⟩:=hrx.ok hi;have hrun:(execOp a.eval o).run P w= .ok (.value (a.eval x)) w:=by simp [execOp,ho]
 generalize a.eval x=v at f1 hrun;cases f1 with
 |unil=>exact Ya hrun (hnext _ _ (Z2 h1 hd hn hok ⟨[], .nil,UE,fun _ h=>by cases h⟩))
 | @unq _ b n cap e cur _ vs F' c1 c2 c3 c4 c5 c6 c7 c8 c9 c10=>
  have hb:ow1 b=some .pd:=f3 b (Uj ..);have hbF:b∉F':=(List.nodup_cons.1 f2).1;have hst:Step w w Pr (XV Pr b (n * k)) γ γ ow1 ow1:=
   ⟨Ext.refl _ _ _,fun _ _ _ h=> .inl h,fun c i _ hc=>⟨fun h=>h.elim id fun h=>absurd (h.1 ▸ hb) hc, .inl⟩,fun c i h=>h.elim (h1.prl c i) fun h=>h.1 ▸ YL c1,fun _ _ _ h=>h,h1.owl,fun _ l h _=>⟨l,h⟩,fun _ _ h=>h⟩
  refine Ya hrun (hnext _ _ (Z2 (h1.step hst rfl) hd hn hok ⟨b::F',?_,f2,f3⟩));refine .own c1 c2 c4 c5 c6 c7 c8 (c9.mono (Ext.refl (fun _=>False) Pr w) (fun _ _ _ h=> .inl h) (fun _ _ h=>h) (Uq _) (fun _ _ h=>h) fun c hc i=>⟨fun h=>h.elim id fun h=>absurd (h.1 ▸ hc) hbF, .inl⟩) (fun i=>⟨fun h=>h.elim (fun h=>absurd h (c10 i)) (·.2),fun h=> .inr ⟨rfl,h⟩⟩) c3
theorem ZCk {n:Nat} {s':St} (h:JA n s=some s') {D:Nat->Prop} {Pr0:Nat->Nat->Prop} {w0:World} {a:Act} {w:World} (hat:At GE D Pr0 w0 nt s a w):At GE D Pr0 w0 nt s' a w:=by
 unfold JA at h;split at h
 case h_2=>cases h
 rename_i key m hen;split at h
 case h_2=>cases h
 rename_i ob hL;cases hf:ob.frz with
 |true=>rw [hf] at h;cases h
 |false=>
 rw [hf] at h;simp only [Ur] at h;split at h
 case h_2=>cases h
 rename_i row hrow;cases hm:Nat.beq row.length m with
 |false=>rw [hm] at h;cases h
 |true=>
 rw [hm] at h;cases h;have hm:=Ud hm;obtain ⟨ow,Pr,B,γ,h1,h2,h3⟩:=hat;have hs:=h1.slot n;rw [hen] at hs;obtain ⟨ob',cur',e',hL',q1,q2,q3⟩:=hs;rw [hL] at hL';cases hL';obtain ⟨⟨⟨cur,e,m1,mz,⟨F,m2,m3,m4⟩,m5⟩,m6⟩,m7,m8⟩:=h1.memObj hL (by rw [hrow];simp);rw [m1] at q1;obtain ⟨rfl,rfl⟩:cur=cur'/\e=e':=by simpa using q1
 have hfl:ob.rows.flatten=row:=by rw [hrow];simp
 rw [hfl] at m2 mz;obtain ⟨us,e1,e2,e3⟩:=q3;have hus:us=cur.toList.take row.length:=by
  apply UV;intro j;rw [UA];by_cases hj:j < row.length
  ·have hju:us[j]? =some us[j]:=Ua (by omega);rw [Ul hj,hju];have:=e3 j _ hju;simpa using this.symm
  ·rw [Uf hj];exact UP (by omega)
 have hr:Reps w Pr γ w0.heap.size (clrs row) (cur.toList.take row.length) []:=m2.clr;have hfl2: [clrs row].flatten=clrs row:=by simp
 have hinv:=h1.takeObj (rows:= [clrs row]) (M:=F) hL m1 (by rw [hfl2,Xy];exact hr) UE (fun _ h=>by cases h) m4 (fun _ _ h=>by cases h) (by rw [hrow];rfl) (fun r hr=>by
  rw [Ml] at hr;rw [hr,Xy];exact m7 row (by rw [hrow];simp))
 have hagg:Rep w Pr γ w0.heap.size (.agg row) (ZP a n) F:=by
  rw [e1,hus];exact .agg m2
 have hput:=hinv.put (d:=n) hagg m3 (fun b hb=>Ul hb);have hup:upd (ZP a) n (ZP a n)=ZP a:=by
  funext t
  by_cases ht:t=n
  ·subst ht;exact ZE _ _ _
  ·exact ZA _ _ ht
 rw [hup] at hput;simp only [hf] at hput;exact ⟨_,Pr,B,γ,hput,h2,h3⟩
theorem ZrX {E:Ctx} (hT:TOk P E.T) (hC:Xq P GE.ng GE.G0 E.C) (hU:Qv P GE.ng GE.G0 E.cu) {id i:Nat} (h:opM E id i o s K=some r):∃sv s1,K sv s1=some r/\ZU P GE nt o s sv s1:=by
 unfold opM at h;cases hb:Nat.beq (E.hb id i) 0 with
 |true=>rw [hb] at h;exact ZbC hT hC h
 |false=>
  rw [hb] at h;simp only [Ur] at h;unfold opU at h;split at h
  ·rename_i t x _ ho;cases hk:(E.T t).ok with
   |false=>rw [hk] at h;cases h
   |true=>exact ZBQ hT ho hk (by simpa [hk] using h)
  ·rename_i t n _ ho;cases hk:(E.T t).ok with
   |false=>rw [hk] at h;cases h
   |true=>rw [hk] at h;exact ZB4 (T:=E.T) (CfOk.constA (E.T t)) ho h
  ·rename_i c _ ho;split at h
   ·rename_i f hc;cases hg:E.gs f with
    |true=>rw [hg] at h;cases h
    |false=>rw [hg] at h;exact ZBW hC ho hc h
   ·cases h
  ·rename_i c _ ho;split at h
   ·rename_i f hc;split at h
    ·rename_i x y t ts hx _;exact ZB1 hU ho hc hx h
    ·cases h
   ·cases h
  ·rename_i x _ ho;exact ZCj (T:=E.T) (CfOk.constA (E.T o.type)) ho h
  ·rename_i c _ ho;split at h
   ·rename_i n t ts hc hx hts;split at h
    ·rename_i e k ht;exact ZBR hT ho hc hx hts ht h
    ·cases h
   ·cases h
  ·rename_i t n x _ ho;split at h
   ·rename_i e k ht;exact ZBS hT ho ht h
   ·cases h
  ·rename_i t n f _ ho;split at h
   ·rename_i cz offs ht;split at h
    ·rename_i fo sz hf;split at h
     ·rename_i key i off e k m o2 hen;exact ZBT hT ho ht hf hen h
     ·cases h
    ·cases h
   ·cases h
  ·rename_i t n _ ho;cases hk:(E.T t).ok with
   |false=>rw [hk] at h;cases h
   |true=>
    rw [hk] at h;simp only [Ui,Ur] at h;split at h
    ·rename_i key i off e k m o2 hen;exact ZBV hT ho hk hen h
    ·cases h
  ·rename_i t n v _ ho;cases hk:(E.T t).ok with
   |false=>rw [hk] at h;cases h
   |true=>
    rw [hk] at h;simp only [Ui,Ur] at h;obtain ⟨av,h,hav⟩:=YX (GE:=GE) h;split at h
    ·rename_i key i off e k m o2 hen;exact ZCb hT ho hk hen h hav
    ·cases h
  ·rename_i t n _ ho;cases hk:(E.T t).ok with
   |false=>rw [hk] at h;cases h
   |true=>
    rw [hk] at h;simp only [Ui,Ur] at h;split at h
    ·rename_i key i off hen;obtain ⟨a,s1,h1,h2⟩:=ZCd (GE:=GE) (nt:=nt) hT ho hk hen h;exact ZCa (sv:= .val a) h1 h2
    ·cases h
  ·rename_i v _ ho;exact ⟨_,_,h,fun D Pr0 w0 a w ⟨ow,Pr,B,γ,hi,hd,hn⟩ hok next Q hnext=>Ya (w1:=w) (v:=v) (by simp [execOp,ho,Act.eval]) (hnext _ _ (Z2 hi hd hn hok trivial))⟩
  ·rename_i t n parts _ ho;split at h
   ·rename_i e k ht;obtain ⟨h0,h9⟩:(Nat.beq n 0 && parts.toList.isEmpty)=true/\K (.val (.slc .unq k [])) s=some r:=by
     cases h0:Nat.beq n 0 && parts.toList.isEmpty with
     |false=>rw [h0] at h;cases h
     |true=>rw [h0] at h;exact ⟨rfl,h⟩
    rw [Ub] at h0;obtain rfl:=Ud h0.1;exact ZCg hT ho ht (by simpa using h0.2) h9
   ·cases h
  ·rename_i c _ ho;split at h
   ·rename_i x y t t' hc hx hts;cases htt:Nat.beq t t' with
    |false=>rw [htt] at h;cases h
    |true=>
     rw [htt] at h;simp only [Ui,Ur] at h;split at h
     ·rename_i e k ht;simp only [ZAF] at h;exact ZCf hT (CfOk.constA _) (CfOk.constA _) ho hc hx hts htt ht h
     ·cases h
   ·cases h
  ·rename_i n _ ho;obtain ⟨s',hs',h⟩:=Option.bind_eq_some_iff.1 h;obtain ⟨sv,s1,h1,h2⟩:=ZbC (nt:=nt) hT hC h;exact ⟨sv,s1,h1,fun D Pr0 w0 a w hat hok next Q hnext=>h2 D Pr0 w0 a w (ZrW hs' hat) hok next Q hnext⟩
  ·rename_i n _ ho;obtain ⟨s',hs',h⟩:=Option.bind_eq_some_iff.1 h;obtain ⟨sv,s1,h1,h2⟩:=ZbC (nt:=nt) hT hC h;exact ⟨sv,s1,h1,fun D Pr0 w0 a w hat hok next Q hnext=>h2 D Pr0 w0 a w (ZCi hs' hat) hok next Q hnext⟩
  ·rename_i c _ ho;split at h
   ·rename_i f x g hc hx;exact ZB3 hU ho hc hx h
   ·cases h
  ·rename_i n _ ho;obtain ⟨s',hs',h⟩:=Option.bind_eq_some_iff.1 h;obtain ⟨sv,s1,h1,h2⟩:=ZbC (nt:=nt) hT hC h;exact ⟨sv,s1,h1,fun D Pr0 w0 a w hat hok next Q hnext=>h2 D Pr0 w0 a w (ZCh hs' hat) hok next Q hnext⟩
  ·rename_i n _ ho;obtain ⟨s',hs',h⟩:=Option.bind_eq_some_iff.1 h;obtain ⟨sv,s1,h1,h2⟩:=ZbC (nt:=nt) hT hC h;exact ⟨sv,s1,h1,fun D Pr0 w0 a w hat hok next Q hnext=>h2 D Pr0 w0 a w (ZrV hs' hat) hok next Q hnext⟩
  ·rename_i t q v _ ho;split at h
   ·split at h
    ·rename_i ob _;exact ZbC (E:={E with ro:=fun _=>Zmk ob.k}) hT hC h
    ·cases h
   ·cases h
  ·rename_i t p n _ ho;obtain ⟨s',hs',h⟩:=Option.bind_eq_some_iff.1 h;obtain ⟨sv,s1,h1,h2⟩:=ZbC (nt:=nt) hT hC h;exact ⟨sv,s1,h1,fun D Pr0 w0 a w hat hok next Q hnext=>h2 D Pr0 w0 a w (ZCk hs' hat) hok next Q hnext⟩
  ·cases h
theorem ZrY {E:Ctx} (hT:TOk P E.T) (hC:Xq P GE.ng GE.G0 E.C) (hU:Qv P GE.ng GE.G0 E.cu) {id i:Nat} (h:Xp E id i o s K=some r):∃sv s1,K sv s1=some r/\ZU P GE nt o s sv s1:=by
 unfold Xp at h;split at h
 ·exact ZrX hT hC hU h
 ·rename_i A _;obtain ⟨sv,s1,h1,h2⟩:=ZrX (nt:=nt) hT hC hU h;split at h1
  ·rename_i a;obtain ⟨x,h3,h4⟩:=A.ok _ _ _ h1;refine ⟨_,_,h4,fun D Pr0 w0 ac w hat hok next Q hnext=>h2 D Pr0 w0 ac w hat hok next Q fun a' w' ha=>hnext a' w' ?_⟩;cases hd:o.dst with
   |none=>rw [hd] at ha;exact ha
   |some d=>
    rw [hd] at ha;have:=ha.leSlot (d:=d) (x:=a) (by show upd s1.env d _ d=_;exact ZE _ _ _) h3;have e:upd (upd s1.env d (.val a)) d (.val (A.enc x))=upd s1.env d (.val (A.enc x)):=Ku _ _ _ _;simp only [put] at this ⊢;rw [e] at this;exact this
  ·cases h1
theorem ZrZ {E:Ctx} (hT:TOk P E.T) (hC:Xq P GE.ng GE.G0 E.C) (hU:Qv P GE.ng GE.G0 E.cu) {id i:Nat} (h:opR E id i o s K=some r):∃sv s1,K sv s1=some r/\ZU P GE nt o s sv s1:=by
 unfold opR at h;cases ht:E.th id i with
 |true=>
  rw [ht] at h;obtain ⟨sv,s1,h1,h2⟩:=ZrY (nt:=nt) hT hC hU h;exact ZBX h1 h2
 |false=>rw [ht] at h;exact ZrY hT hC hU h
end
end Go.Fx
