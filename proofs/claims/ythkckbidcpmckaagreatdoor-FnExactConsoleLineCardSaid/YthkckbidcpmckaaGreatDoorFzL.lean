/- Slice expressions, conversions: each as one operation of a region. -/
import Derived.Test.YthkckbidcpmckaaGreatDoorFzK
import Derived.Laws.BytesArg
set_option linter.all false
namespace Go.Fx
section
variable {P:Program} {GE:Glob} {nt:Nat} {T:Nat->TD} {β:Type} {K:SV->St->Option β} {r:β} {o:Oper} {s:St}
theorem ZBg (hT:TOk P T) {w:World} {Pr:Nat->Nat->Prop} {γ:List Nat} {base t:Nat} {b0:ByteArray} {a c:AV} {lo hi mx:Option AV} {v:Value} {lo' hi' mx':Option Value} {F:List Nat} (ht:T t= .sc (.string b0)) (h:slT a lo hi mx=some c)
  (ha:Rep w Pr γ base a v F) (hlo:(lo=none/\lo'=none)\/∃a' v' F,lo=some a'/\lo'=some v'/\Rep w Pr γ base a' v' F)
  (hhi:(hi=none/\hi'=none)\/∃a' v' F,hi=some a'/\hi'=some v'/\Rep w Pr γ base a' v' F) (hmx:(mx=none/\mx'=none)\/∃a' v' F,mx=some a'/\mx'=some v'/\Rep w Pr γ base a' v' F):
  ∃u,(Instr.sliceAt t v lo' hi' mx').run P w= .ok u w/\Rep w Pr γ base c u []:=by
 have hu:=ZeE hT ht;unfold slT at h;split at h
 case h_2=>cases h
 rename_i b;obtain rfl:=ZcV ha;obtain ⟨l,hl,h⟩:=ZG h;obtain ⟨hh,hhh,h⟩:=ZG h;have hmx':mx'=none:=by
  rcases hmx with ⟨_,h⟩ | ⟨_,_,_,hm,_⟩
  ·exact h
  ·cases hm
 subst hmx';have il:=Zhj hl hlo;have ih:=Zhj hhh hhi;split at h
 ·rename_i hb;cases h;refine ⟨.string (b.extract l.toNat hh.toNat),?_, .lit rfl⟩;rw [run_sliceAt_string w t _ lo' hi' none hu];simp [Instr.slice,run_underlying hu,Zrx il ih hb.1 hb.2.1 hb.2.2 (Uq _)]
 ·cases h
theorem ZBh (hT:TOk P T) {t:Nat} {x:Operand} {lo hi mx:Option Operand} (ho:o.op= .slice t x lo hi mx)
  (h:rdo lo s (fun lo=>rdo hi s fun hi=>rdo mx s fun mx=>rd0 x s fun a=>
   match T t with
   | .sl _ k=>(slA k a lo hi mx).bind fun r=>K (.val r) s
   | .sc (.string _)=>(slT a lo hi mx).bind fun r=>K (.val r) s
   | _=>none)=some r):∃sv s1,K sv s1=some r/\ZU P GE nt o s sv s1:=by
 obtain ⟨lo',h,hlo⟩:=ZmG (GE:=GE) h;obtain ⟨hi',h,hhi⟩:=ZmG (GE:=GE) h;obtain ⟨mx',h,hmx⟩:=ZmG (GE:=GE) h;obtain ⟨a,h,ha⟩:=YX (GE:=GE) h;split at h
 ·rename_i e k ht;obtain ⟨c,hc,h⟩:=ZG h;refine ⟨_,_,h,Va fun hi=> ?_⟩;obtain ⟨F,ha⟩:=ha.ok hi;obtain ⟨u,h1,h2⟩:=ZBf hT ht hc ha (hlo.ok hi) (hhi.ok hi) (hmx.ok hi);exact ⟨u,by simp [execOp,ho,h1],h2⟩
 ·rename_i b0 ht;obtain ⟨c,hc,h⟩:=ZG h;refine ⟨_,_,h,Va fun hi=> ?_⟩;obtain ⟨F,ha⟩:=ha.ok hi;obtain ⟨u,h1,h2⟩:=ZBg hT ht hc ha (hlo.ok hi) (hhi.ok hi) (hmx.ok hi);exact ⟨u,by simp [execOp,ho,h1],h2⟩
 ·cases h
theorem Zrz:∀{xs:List (List AV)} {l:List UInt8},Zaa xs=some l->∃ms:List Int,xs.flatten=ms.map (fun n=>AV.lit (.int .u8 n))/\l=ms.map (fun n=>UInt8.ofNat n.toNat)/\ms.length=xs.length
 | [],l,h=>by cases h;exact ⟨[],rfl,rfl,rfl⟩
 |x::xs,l,h=>by
  unfold Zaa at h;split at h
  ·rename_i e;cases e
  ·rename_i n r e;cases e;cases hr:Zaa xs with
   |none=>rw [hr] at h;cases h
   |some l'=>
    rw [hr] at h;cases h;obtain ⟨ms,h1,h2,h3⟩:=Zrz hr;exact ⟨n::ms,by simp [h1],by simp [h2],by simp [h3]⟩
  ·cases h
theorem ZBi:∀(ms:List Int),clrs (ms.map (fun n=>AV.lit (.int .u8 n)))=ms.map (fun n=>AV.lit (.int .u8 n)):=by
 intro ms;simp [ZgV,AV.clr]
theorem ZrA {w:World} {Pr:Nat->Nat->Prop} {γ:List Nat} {base:Nat}:∀{ms:List Int} {vs:List Value} {F:List Nat},Reps w Pr γ base (ms.map (fun n=>AV.lit (.int .u8 n))) vs F->vs=ms.map (Value.int .u8)
 | [],_,_,h=>by cases h;rfl
 |m::ms,_,_,h=>by
  cases h with
  |cons _ h1 h2=>rw [XB h1,ZrA h2];rfl
theorem ZBj (hT:TOk P T) {e:Nat} {n:Int} (h:T e= .sc (.int .u8 n)):P.underlying e=some (.int .u8):=by
 obtain ⟨ds,h1,h2⟩:=ZcW hT h;cases ds <;> simp [XA] at h2
 rw [h1,h2]
theorem ZBk (hT:TOk P T) {w:World} {Pr:Nat->Nat->Prop} {γ:List Nat} {base src dst:Nat} {ds dd:TD} (hs:T src=ds) (hd:T dst=dd) {a c:AV} {v:Value} {F:List Nat} (hc:Zes T ds dd a=some c) (ha:Rep w Pr γ base a v F):
  ∃u,(convert src dst v).run P w= .ok u w/\Rep w Pr γ base c u []:=by
 unfold Zes at hc;split at hc
 ·cases hc;obtain ⟨ds,h1,_⟩:=ZcW hT hs;obtain ⟨dd,h2,h3⟩:=ZcW hT hd;obtain ⟨k,rfl⟩:∃k,dd= .int k:=by cases dd <;> simp_all [XA]
  simp only [XA,UI] at h3;subst h3;exact ⟨_,by rw [XB ha];simp [convert,run_underlying h1,run_underlying h2,Conv.intToInt], .lit rfl⟩
 ·cases hc;obtain ⟨ds,h1,_⟩:=ZcW hT hs;have h2:=ZeE hT hd;exact ⟨_,by rw [ZcV ha];simp [convert,run_underlying h1,run_underlying h2], .lit rfl⟩
 ·rename_i e k b0 o' k' xs;split at hc
  case h_2=>cases hc
  rename_i n0 he;cases hk:Nat.beq k 1 && Nat.beq k' 1 && o'.nu with
  |false=>rw [hk] at hc;cases hc
  |true=>
  rw [hk] at hc;simp only [Ub] at hk;simp only [Ut] at hc;cases hb:Zaa xs with
  |none=>rw [hb] at hc;cases hc
  |some l=>
  rw [hb] at hc;cases hc;obtain ⟨ms,m1,m2,m3⟩:=Zrz hb;obtain ⟨A,n,cap,vs,e0,e1,e2,e3,e4,e5,e7⟩:=ha.shr_of hk.2;rw [m1,ZBi] at e5;have hvs:=ZrA e5;have hus:=VF hT hs;have hue:=ZBj hT he;have hud:=ZeE hT hd;refine ⟨.string ⟨l.toArray⟩,?_, .lit rfl⟩;rw [e0];subst m2;rcases e7 with e7 | ⟨ad,rfl,r2,r3,r4,r5⟩
  ·subst e7;have:ms= []:=by
    cases ms with
    |nil=>rfl
    |cons _ _=>simp at m3;omega
   subst this;rw [run_convert_bytes_string _ src dst e _ _ _ hus hue hud];cases A with
   |none=>simp [Conv.bytesToString];rfl
   |some ad=>
    have:=run_bytesToString (P:=P) w ad 0 cap [] (by simp [loadCells,loadCellsFrom]);rw [this];rfl
  ·obtain ⟨b,off,sp⟩:=ad;simp only at r2;subst r2;have:=run_convert_bytes_arg (P:=P) w src e hus hue b off n cap ms (by omega) (fun i hi=>by
    have hi':i < ms.length:=by omega
    refine r3 i _ ?_;rw [hvs];simp [Ua hi',List.getD]) dst hud
   rw [this];rfl
 ·cases hc
theorem ZBl (hT:TOk P T) {src dst:Nat} {x:Operand} (ho:o.op= .convert src dst x)
  (h:rd0 x s (fun a=>(Zes T (T src) (T dst) a).bind fun r=>K (.val r) s)=some r):∃sv s1,K sv s1=some r/\ZU P GE nt o s sv s1:=by
 obtain ⟨a,h,ha⟩:=YX (GE:=GE) h;obtain ⟨c,hc,h⟩:=ZG h;refine ⟨_,_,h,Va fun hi=> ?_⟩;obtain ⟨F,ha⟩:=ha.ok hi;obtain ⟨u,h1,h2⟩:=ZBk hT rfl rfl hc ha;exact ⟨u,by simp [execOp,ho,h1],h2⟩
end
end Go.Fx
