/- Part of the proof: see the last text of the claim. -/
import Derived.Test.YthkckbidcpmckaaGreatDoorGTyLQ
import Derived.Test.YthkckbidcpmckaaGreatDoorShQ
set_option linter.all false
namespace Go.Sh
open Go.Fx
def QU (s:Path):Prop:=Rg s.id/\Rg s.kind/\Rg s.src/\Rg s.dst
def Zka:Sh:= .st 4 [.int .i64, .int .i64, .int .i64, .int .i64]
theorem ZDW:Xa Zka Ze QU:=ZbK (ZbI (XC Xr (XC Xr (XC Xr (ZbJ Xr))))) (fun _ h=>h)
def ZX (s:Control):Prop:=Sm s.stage/\Sm s.next
def ZfH (s:Control):Prop:=(s.stage.length<=maxLen/\∀y∈s.stage,Rg y)/\Rg s.since/\(s.next.length<=maxLen/\∀y∈s.next,Rg y)/\Rg s.left
def Zkb:Sh:= .st 4 [.sl 1 (.int .i64), .int .i64, .sl 1 (.int .i64), .int .i64]
theorem ZDX:Xa Zkb (XD .shr .shr) ZfH:=ZbK (ZbI (XC (ZbH 1 Xr) (XC Xr (XC (ZbH 1 Xr) (ZbJ Xr))))) (fun _ h=>h)
def Zn0 (s:Want):Prop:=Rg s.path/\Rg s.wait
def Zkc:Sh:= .st 2 [.int .i64, .int .i64]
theorem ZDY:Xa Zkc Zc Zn0:=ZbK (ZbI (XC Xr (ZbJ Xr))) (fun _ h=>h)
def Ztz (s:Prio):Prop:=Rg s.path/\Rg s.left
def Zkd:Sh:= .st 2 [.int .i64, .int .i64]
theorem ZDZ:Xa Zkd V4 Ztz:=ZbK (ZbI (XC Xr (ZbJ Xr))) (fun _ h=>h)
def Zn1 (s:Lamp):Prop:=Rg s.path/\Rg s.colour/\True
def Zke:Sh:= .st 3 [.int .i64, .int .i64, .bool]
theorem ZD0:Xa Zke Zl Zn1:=ZbK (ZbI (XC Xr (XC Xr (ZbJ ZsP)))) (fun _ h=>h)
def YG (s:Note):Prop:=Sm s.lights
def Zkf (s:Note):Prop:=Rg s.second/\(s.lights.length<=maxLen/\∀y∈s.lights,Rg y)/\Rg s.sig
def Zkg:Sh:= .st 3 [.int .i64, .sl 1 (.int .i64), .int .i64]
theorem ZD1:Xa Zkg (Zb .shr) Zkf:=ZbK (ZbI (XC Xr (XC (ZbH 1 Xr) (ZbJ Xr)))) (fun _ h=>h)
def Zx (s:Town):Prop:=Sm s.paths/\ZX s.control/\Sm s.wants/\Sm s.lamps/\(Sm s.record/\∀y∈s.record,YG y)
def Zkh (s:Town):Prop:=(s.paths.length<=maxLen/\∀y∈s.paths,QU y)/\ZfH s.control/\(s.wants.length<=maxLen/\∀y∈s.wants,Zn0 y)/\Ztz s.prio/\(s.lamps.length<=maxLen/\∀y∈s.lamps,Zn1 y)/\True/\(s.record.length<=maxLen/\∀y∈s.record,Zkf y)/\Rg s.books/\Rg s.now
def ZD2:Sh:= .st 13 [.sl 4 (Zka),Zkb, .sl 2 (Zkc),Zkd, .sl 3 (Zke), .bool, .sl 3 (Zkg), .int .i64, .int .i64]
theorem ZD3:Xa ZD2 (YD .shr .shr .shr .shr .shr .shr .shr) Zkh:=ZbK (ZbI (XC (ZbH 4 ZDW) (ZsR ZDX (XC (ZbH 2 ZDY) (ZsR ZDZ (XC (ZbH 3 ZD0) (XC ZsP (XC (ZbH 3 ZD1) (XC Xr (ZbJ Xr)))))))))) (fun _ h=>h)
def ZtA (s:Report):Prop:=Rg s.path/\Rg s.second/\Rg s.light/\Rg s.since/\Rg s.other
def Zki (s:Part):Prop:=Sm s.stage
def Zn2 (s:Part):Prop:=(s.stage.length<=maxLen/\∀y∈s.stage,Rg y)/\Rg s.green
theorem ZD4 (a:(List Path)) (h:(a.length<=maxLen/\∀y∈a,QU y)):JG ZhT a (Sm a):=by
 intro left g0 g1;unfold ZhT;have hm:a.length<=9223372036854775807:=h.1;simp only [Zp,Zk,Zo,Zn,Zr,Zu,Yp];rw [Zz (by omega) (by omega)];by_cases hn:left - (a.length:Int) < 0
 ·rw [show decide (left - (a.length:Int) < 0)=true by simpa using hn,Zs];exact ⟨-1,rfl, .inl (by omega)⟩
 ·rw [show decide (left - (a.length:Int) < 0)=false by simpa using hn,Zh];exact ⟨_,rfl, .inr ⟨by omega,by omega,by unfold Sm;omega⟩⟩
theorem Zn3 (a:(List Int)) (h:(a.length<=maxLen/\∀y∈a,Rg y)):JG Zda a (Sm a):=by
 intro left g0 g1;unfold Zda;have hm:a.length<=9223372036854775807:=h.1;simp only [Zp,Zk,Zo,Zn,Zr,Zq,ZV];rw [Zz (by omega) (by omega)];by_cases hn:left - (a.length:Int) < 0
 ·rw [show decide (left - (a.length:Int) < 0)=true by simpa using hn,Zs];exact ⟨-1,rfl, .inl (by omega)⟩
 ·rw [show decide (left - (a.length:Int) < 0)=false by simpa using hn,Zh];exact ⟨_,rfl, .inr ⟨by omega,by omega,by unfold Sm;omega⟩⟩
theorem ZD5 (a:Control) (h:ZfH a):JG ZhU a (ZX a):=by
 intro left g0 g1;unfold ZhU;obtain ⟨k0,k1,k2,k3⟩:=h;simp only [Zp,Zk,Zo,Zn,Zr,Zq,Zd];obtain ⟨r0,e0,d0⟩:=Zn3 a.stage k0 left (by omega) (by omega);rw [e0,Zd];by_cases n0:r0 < 0
 ·rw [show decide (r0 < 0)=true by simpa using n0,Zs];exact ⟨-1,rfl, .inl (by omega)⟩
 rw [show decide (r0 < 0)=false by simpa using n0,Zh]
 replace d0:=d0.resolve_left n0
 obtain ⟨r1,e1,d1⟩:=Zn3 a.next k2 r0 (by omega) (by omega);rw [e1,Zd];by_cases n1:r1 < 0
 ·rw [show decide (r1 < 0)=true by simpa using n1,Zs];exact ⟨-1,rfl, .inl (by omega)⟩
 rw [show decide (r1 < 0)=false by simpa using n1,Zh]
 replace d1:=d1.resolve_left n1
 exact ⟨r1,rfl, .inr ⟨by omega,by omega,⟨d0.2.2,d1.2.2⟩⟩⟩
theorem ZD6 (a:(List Want)) (h:(a.length<=maxLen/\∀y∈a,Zn0 y)):JG ZhV a (Sm a):=by
 intro left g0 g1;unfold ZhV;have hm:a.length<=9223372036854775807:=h.1;simp only [Zp,Zk,Zo,Zn,Zr,ZK,Xc];rw [Zz (by omega) (by omega)];by_cases hn:left - (a.length:Int) < 0
 ·rw [show decide (left - (a.length:Int) < 0)=true by simpa using hn,Zs];exact ⟨-1,rfl, .inl (by omega)⟩
 ·rw [show decide (left - (a.length:Int) < 0)=false by simpa using hn,Zh];exact ⟨_,rfl, .inr ⟨by omega,by omega,by unfold Sm;omega⟩⟩
theorem ZD7 (a:(List Lamp)) (h:(a.length<=maxLen/\∀y∈a,Zn1 y)):JG ZhW a (Sm a):=by
 intro left g0 g1;unfold ZhW;have hm:a.length<=9223372036854775807:=h.1;simp only [Zp,Zk,Zo,Zn,Zr,ZT,JI];rw [Zz (by omega) (by omega)];by_cases hn:left - (a.length:Int) < 0
 ·rw [show decide (left - (a.length:Int) < 0)=true by simpa using hn,Zs];exact ⟨-1,rfl, .inl (by omega)⟩
 ·rw [show decide (left - (a.length:Int) < 0)=false by simpa using hn,Zh];exact ⟨_,rfl, .inr ⟨by omega,by omega,by unfold Sm;omega⟩⟩
theorem ZD8 (a:Note) (h:Zkf a):JG ZeV a (YG a):=by
 intro left g0 g1;unfold ZeV;obtain ⟨k0,k1,k2⟩:=h;simp only [Zp,Zk,Zo,Zn,Zr,Zq,Zd];obtain ⟨r0,e0,d0⟩:=Zn3 a.lights k1 left (by omega) (by omega);rw [e0,Zd];by_cases n0:r0 < 0
 ·rw [show decide (r0 < 0)=true by simpa using n0,Zs];exact ⟨-1,rfl, .inl (by omega)⟩
 rw [show decide (r0 < 0)=false by simpa using n0,Zh]
 replace d0:=d0.resolve_left n0
 exact ⟨r0,rfl, .inr ⟨by omega,by omega,d0.2.2⟩⟩
theorem ZD9 (a:(List Note)) (h:(a.length<=maxLen/\∀y∈a,Zkf y)):JG ZhX a ((Sm a/\∀y∈a,YG y)):=by
 intro left g0 g1;unfold ZhX;have hm:a.length<=9223372036854775807:=h.1;simp only [Zp,Zk,Zo,Zn,Zr,ZS,XE];rw [Zz (by omega) (by omega)];by_cases hn:left - (a.length:Int) < 0
 ·rw [show decide (left - (a.length:Int) < 0)=true by simpa using hn,Zs];exact ⟨-1,rfl, .inl (by omega)⟩
 ·rw [show decide (left - (a.length:Int) < 0)=false by simpa using hn,Zh];refine ZDi (S:=ZeV) a (fun y=>YG y) (by omega) (fun x hx=>ZD8 x (h.2 x hx)) (fun rec l=>by simp) (fun rec k x l r hx hk hr=> ?_) (by omega) (by omega) g1 (by unfold Sm;omega);simp [hk,Zi hx,Xb (show k<=9223372036854775806 by omega),hr,ZB]
theorem ZEa (a:Town) (h:Zkh a):JG ZhY a (Zx a):=by
 intro left g0 g1;unfold ZhY;obtain ⟨k0,k1,k2,k3,k4,k5,k6,k7,k8⟩:=h;simp only [Zp,Zk,Zo,Zn,Zr,Zq,ZT,ZS,Zu,ZK,Zd];obtain ⟨r0,e0,d0⟩:=ZD4 a.paths k0 left (by omega) (by omega);rw [e0,Zd];by_cases n0:r0 < 0
 ·rw [show decide (r0 < 0)=true by simpa using n0,Zs];exact ⟨-1,rfl, .inl (by omega)⟩
 rw [show decide (r0 < 0)=false by simpa using n0,Zh]
 replace d0:=d0.resolve_left n0
 obtain ⟨r1,e1,d1⟩:=ZD5 a.control k1 r0 (by omega) (by omega);rw [e1,Zd];by_cases n1:r1 < 0
 ·rw [show decide (r1 < 0)=true by simpa using n1,Zs];exact ⟨-1,rfl, .inl (by omega)⟩
 rw [show decide (r1 < 0)=false by simpa using n1,Zh]
 replace d1:=d1.resolve_left n1
 obtain ⟨r2,e2,d2⟩:=ZD6 a.wants k2 r1 (by omega) (by omega);rw [e2,Zd];by_cases n2:r2 < 0
 ·rw [show decide (r2 < 0)=true by simpa using n2,Zs];exact ⟨-1,rfl, .inl (by omega)⟩
 rw [show decide (r2 < 0)=false by simpa using n2,Zh]
 replace d2:=d2.resolve_left n2
 obtain ⟨r3,e3,d3⟩:=ZD7 a.lamps k4 r2 (by omega) (by omega);rw [e3,Zd];by_cases n3:r3 < 0
 ·rw [show decide (r3 < 0)=true by simpa using n3,Zs];exact ⟨-1,rfl, .inl (by omega)⟩
 rw [show decide (r3 < 0)=false by simpa using n3,Zh]
 replace d3:=d3.resolve_left n3
 obtain ⟨r4,e4,d4⟩:=ZD9 a.record k6 r3 (by omega) (by omega);rw [e4,Zd];by_cases n4:r4 < 0
 ·rw [show decide (r4 < 0)=true by simpa using n4,Zs];exact ⟨-1,rfl, .inl (by omega)⟩
 rw [show decide (r4 < 0)=false by simpa using n4,Zh]
 replace d4:=d4.resolve_left n4
 exact ⟨r4,rfl, .inr ⟨by omega,by omega,⟨d0.2.2,d1.2.2,d2.2.2,d3.2.2,d4.2.2⟩⟩⟩
@[simp] theorem ZEb (a:Path):ZnC a=some a:=rfl
theorem ZEc (a:(List Path)) (h:Sm a):ZhZ a=some a:=by
 have hl:=h;unfold Sm at hl;unfold ZhZ;simp only [Zp,Zk,Zo,Zn,Zr,Zu,Yp,ZDq,Ux];rw [Zt (by simp <;> omega)];refine ZeN a _ (by omega) ?_ ?_
 ·intro rec o;simp
 ·intro rec k x o hx hk ho;have hz:o[k]? =some o[k]:=Ua (by omega);have hko:k < o.length:=by omega
  simp [hk,hko,Zi hx,X0 hz,Xb (show k<=9223372036854775806 by omega),ZEb]
theorem Zn4 (a:(List Int)) (h:Sm a):Zdb a=some a:=by
 have hl:=h;unfold Sm at hl;unfold Zdb;simp only [Zp,Zk,Zo,Zn,Zr,Zq,ZV,ZDm,Ux];rw [Zt (by simp <;> omega)];refine ZeN a _ (by omega) ?_ ?_
 ·intro rec o;simp
 ·intro rec k x o hx hk ho;have hz:o[k]? =some o[k]:=Ua (by omega);have hko:k < o.length:=by omega
  simp [hk,hko,Zi hx,X0 hz,Xb (show k<=9223372036854775806 by omega)]
theorem ZEd (a:Control) (h:ZX a):Zh0 a=some a:=by
 obtain ⟨h0,h1⟩:=h;unfold Zh0;simp [Zn4 _ h0,Zn4 _ h1]
@[simp] theorem ZEe (a:Want):ZnD a=some a:=rfl
theorem ZEf (a:(List Want)) (h:Sm a):Zh1 a=some a:=by
 have hl:=h;unfold Sm at hl;unfold Zh1;simp only [Zp,Zk,Zo,Zn,Zr,ZK,Xc,ZDr,Ux];rw [Zt (by simp <;> omega)];refine ZeN a _ (by omega) ?_ ?_
 ·intro rec o;simp
 ·intro rec k x o hx hk ho;have hz:o[k]? =some o[k]:=Ua (by omega);have hko:k < o.length:=by omega
  simp [hk,hko,Zi hx,X0 hz,Xb (show k<=9223372036854775806 by omega),ZEe]
@[simp] theorem ZEg (a:Prio):ZnE a=some a:=rfl
@[simp] theorem ZEh (a:Lamp):ZnF a=some a:=rfl
theorem ZEi (a:(List Lamp)) (h:Sm a):Zh2 a=some a:=by
 have hl:=h;unfold Sm at hl;unfold Zh2;simp only [Zp,Zk,Zo,Zn,Zr,ZT,JI,ZDu,Ux];rw [Zt (by simp <;> omega)];refine ZeN a _ (by omega) ?_ ?_
 ·intro rec o;simp
 ·intro rec k x o hx hk ho;have hz:o[k]? =some o[k]:=Ua (by omega);have hko:k < o.length:=by omega
  simp [hk,hko,Zi hx,X0 hz,Xb (show k<=9223372036854775806 by omega),ZEh]
theorem ZEj (a:Note) (h:YG a):Zh3 a=some a:=by
 have h0:=h;unfold Zh3;simp [Zn4 _ h0]
theorem ZEk (a:(List Note)) (h:(Sm a/\∀y∈a,YG y)):Zh4 a=some a:=by
 obtain ⟨hl,he⟩:=h;unfold Sm at hl;unfold Zh4;simp only [Zp,Zk,Zo,Zn,Zr,ZS,XE,ZDv,Ux];rw [Zt (by simp <;> omega)];refine ZeN a _ (by omega) ?_ ?_
 ·intro rec o;simp
 ·intro rec k x o hx hk ho;have hz:o[k]? =some o[k]:=Ua (by omega);have hko:k < o.length:=by omega
  simp [hk,hko,Zi hx,X0 hz,Xb (show k<=9223372036854775806 by omega),ZEj x (he x (Uk hx))]
theorem ZEl (a:Town) (h:Zx a):ZbT a=some a:=by
 obtain ⟨h0,h1,h2,h3,h4⟩:=h;unfold ZbT;simp [ZEc _ h0,ZEd _ h1,ZEf _ h2,ZEi _ h3,ZEk _ h4,ZEg]
@[simp] theorem ZEm (a b:Path):ZjP a b=some (decide (a=b)):=by
 unfold ZjP;rcases a with ⟨a0,a1,a2,a3⟩;rcases b with ⟨b0,b1,b2,b3⟩;simp [ZB]
 grind
theorem ZEn (a b:(List Path)) (h:Sm a):ZjQ a b=some (decide (a=b)):=by
 have hl:=h;unfold Sm at hl;unfold ZjQ;simp only [Zp,Zk,Zo,Zn,Zr,Zu,Yp];by_cases hab:a.length=b.length
 ·rw [show (((a.length:Nat):Int) != ((b.length:Nat):Int))=false by simp [hab],Zh];refine ZeO a b hab (by omega) ?_ ?_
  ·intro rec;simp
  ·intro rec k x y hx hy hk;simp [hk,Zi hx,Zi hy,Xb (show k<=9223372036854775806 by omega),ZB,ZEm]
 ·have hne:a≠b:=fun e=>hab (by rw [e])
  rw [show (((a.length:Nat):Int) != ((b.length:Nat):Int))=true by simp;omega,Zs];simp [hne]
theorem Zn5 (a b:(List Int)) (h:Sm a):ZdA a b=some (decide (a=b)):=by
 have hl:=h;unfold Sm at hl;unfold ZdA;simp only [Zp,Zk,Zo,Zn,Zr,Zq,ZV];by_cases hab:a.length=b.length
 ·rw [show (((a.length:Nat):Int) != ((b.length:Nat):Int))=false by simp [hab],Zh];refine ZeO a b hab (by omega) ?_ ?_
  ·intro rec;simp
  ·intro rec k x y hx hy hk;simp [hk,Zi hx,Zi hy,Xb (show k<=9223372036854775806 by omega),ZB]
 ·have hne:a≠b:=fun e=>hab (by rw [e])
  rw [show (((a.length:Nat):Int) != ((b.length:Nat):Int))=true by simp;omega,Zs];simp [hne]
theorem ZEo (a b:Control) (h:ZX a):ZjR a b=some (decide (a=b)):=by
 obtain ⟨h0,h1⟩:=h;unfold ZjR;simp only [Zp,Zk,Zo,Zn,Zr,Zq,Zn5 _ _ h0,Zn5 _ _ h1,Zd];rcases a with ⟨a0,a1,a2,a3⟩;rcases b with ⟨b0,b1,b2,b3⟩;simp [ZB]
 grind
@[simp] theorem ZEp (a b:Want):ZjS a b=some (decide (a=b)):=by
 unfold ZjS;rcases a with ⟨a0,a1⟩;rcases b with ⟨b0,b1⟩;simp [ZB]
 grind
theorem ZEq (a b:(List Want)) (h:Sm a):ZjT a b=some (decide (a=b)):=by
 have hl:=h;unfold Sm at hl;unfold ZjT;simp only [Zp,Zk,Zo,Zn,Zr,ZK,Xc];by_cases hab:a.length=b.length
 ·rw [show (((a.length:Nat):Int) != ((b.length:Nat):Int))=false by simp [hab],Zh];refine ZeO a b hab (by omega) ?_ ?_
  ·intro rec;simp
  ·intro rec k x y hx hy hk;simp [hk,Zi hx,Zi hy,Xb (show k<=9223372036854775806 by omega),ZB,ZEp]
 ·have hne:a≠b:=fun e=>hab (by rw [e])
  rw [show (((a.length:Nat):Int) != ((b.length:Nat):Int))=true by simp;omega,Zs];simp [hne]
@[simp] theorem ZEr (a b:Prio):ZjU a b=some (decide (a=b)):=by
 unfold ZjU;rcases a with ⟨a0,a1⟩;rcases b with ⟨b0,b1⟩;simp [ZB]
 grind
@[simp] theorem ZEs (a b:Lamp):ZjV a b=some (decide (a=b)):=by
 unfold ZjV;rcases a with ⟨a0,a1,a2⟩;rcases b with ⟨b0,b1,b2⟩;simp [ZB]
 grind
theorem ZEt (a b:(List Lamp)) (h:Sm a):ZjW a b=some (decide (a=b)):=by
 have hl:=h;unfold Sm at hl;unfold ZjW;simp only [Zp,Zk,Zo,Zn,Zr,ZT,JI];by_cases hab:a.length=b.length
 ·rw [show (((a.length:Nat):Int) != ((b.length:Nat):Int))=false by simp [hab],Zh];refine ZeO a b hab (by omega) ?_ ?_
  ·intro rec;simp
  ·intro rec k x y hx hy hk;simp [hk,Zi hx,Zi hy,Xb (show k<=9223372036854775806 by omega),ZB,ZEs]
 ·have hne:a≠b:=fun e=>hab (by rw [e])
  rw [show (((a.length:Nat):Int) != ((b.length:Nat):Int))=true by simp;omega,Zs];simp [hne]
theorem ZEu (a b:Note) (h:YG a):ZjX a b=some (decide (a=b)):=by
 have h0:=h;unfold ZjX;simp only [Zp,Zk,Zo,Zn,Zr,Zq,Zn5 _ _ h0,Zd];rcases a with ⟨a0,a1,a2⟩;rcases b with ⟨b0,b1,b2⟩;simp [ZB]
 grind
theorem ZEv (a b:(List Note)) (h:(Sm a/\∀y∈a,YG y)):ZjY a b=some (decide (a=b)):=by
 obtain ⟨hl,he⟩:=h;unfold Sm at hl;unfold ZjY;simp only [Zp,Zk,Zo,Zn,Zr,ZS,XE];by_cases hab:a.length=b.length
 ·rw [show (((a.length:Nat):Int) != ((b.length:Nat):Int))=false by simp [hab],Zh];refine ZeO a b hab (by omega) ?_ ?_
  ·intro rec;simp
  ·intro rec k x y hx hy hk;simp [hk,Zi hx,Zi hy,Xb (show k<=9223372036854775806 by omega),ZB,ZEu x y (he x (Uk hx))]
 ·have hne:a≠b:=fun e=>hab (by rw [e])
  rw [show (((a.length:Nat):Int) != ((b.length:Nat):Int))=true by simp;omega,Zs];simp [hne]
theorem ZtB (a b:Town) (h:Zx a):Zcc a b=some (decide (a=b)):=by
 obtain ⟨h0,h1,h2,h3,h4⟩:=h;unfold Zcc;simp only [Zp,Zk,Zo,Zn,Zr,Zq,ZT,ZS,Zu,ZK,ZEn _ _ h0,ZEo _ _ h1,ZEq _ _ h2,ZEt _ _ h3,ZEv _ _ h4,ZEr,Zd];rcases a with ⟨a0,⟨a1_0,a1_1,a1_2,a1_3⟩,a2,⟨a3_0,a3_1⟩,a4,a5,a6,a7,a8⟩;rcases b with ⟨b0,⟨b1_0,b1_1,b1_2,b1_3⟩,b2,⟨b3_0,b3_1⟩,b4,b5,b6,b7,b8⟩;simp [ZB]
 grind
inductive HdL {α:Type} (Hd:α->Int->Int->Prop):List α->Int->Int->Prop
 |nil (k:Int):HdL Hd [] k 0
 |cons {y:α} {ys:List α} {k n m:Int}:Hd y k n->HdL Hd ys (k + n) m->HdL Hd (y::ys) k (n + m)
theorem ZtC {α:Type} {F:(((Int×Int)×List α)->Option (Int×List α))->((Int×Int)×List α)->Option (Int×List α)} (Hd:α->Int->Int->Prop) (Q:α->Prop) (B:Int) (hB:0<=B)
  (h0:∀rec k (l:List α),F rec ((k,(l.length:Int)),l)=some (k,l))
  (h1:∀rec k (i:Nat) (l:List α) x,Q x->l[i]? =some x->i < l.length->i < 1048576->0<=k->k + B<=1152921504606846976->∃y n,0<=n/\n<=B/\Hd y k n/\F rec ((k,(i:Int)),l)=rec ((k + n,((i + 1:Nat):Int)),l.set i y)):
  ∀(m:Nat) (k:Int) (i:Nat) (l:List α),(∀j x,i<=j->l[j]? =some x->Q x)->i<=l.length->l.length<=1048576->l.length - i < m->0<=k->k + B * ((l.length - i:Nat):Int)<=1152921504606846976->
   ∃n b,0<=n/\n<=B * ((l.length - i:Nat):Int)/\b.length=l.length - i/\HdL Hd b k n/\Zf F m ((k,(i:Int)),l)=some (k + n,l.take i ++ b)
 | 0,k,i,l,_,h,_,hm,_,_=>by omega
 |m + 1,k,i,l,hq,h,hl,hm,hk,hkb=>by
  rw [Ve];rcases U2 i l.length with hlt |hge
  ·have hx:l[i]? =some l[i]:=Ua hlt;have e1:((l.length - i:Nat):Int)=((l.length - (i + 1):Nat):Int) + 1:=by omega
   have e2:B * ((l.length - i:Nat):Int)=B * ((l.length - (i + 1):Nat):Int) + B:=by rw [e1,Int.mul_add,Int.mul_one]
   have e3:0<=B * ((l.length - (i + 1):Nat):Int):=Int.mul_nonneg hB (by omega);obtain ⟨y,n,n0,n1,hd,e⟩:=h1 (Zf F m) k i l _ (hq i _ (Uq i) hx) hx hlt (by omega) hk (by omega);rw [e];obtain ⟨n2,b,g0,g1,g2,g3,g4⟩:=ZtC Hd Q B hB h0 h1 m (k + n) (i + 1) (l.set i y) (fun j x hj hx=>hq j x (by omega) (by rwa [List.getElem?_set_ne (by omega)] at hx)) (by simpa using Nat.succ_le_of_lt hlt) (by simpa using hl) (by simp;omega) (by omega) (by simp only [UU];omega);simp only [UU] at g1 g2;refine ⟨n + n2,y::b,by omega,by omega,by simp;omega, .cons hd g3,?_⟩;rw [g4];congr 2
   ·omega
   ·rw [MF];have:(l.set i y)[i]? =some y:=by simp [hlt]
    rw [this,List.take_set_of_le (Uq i)];simp
  ·have:i=l.length:=by omega
   subst this;rw [h0];exact ⟨0,[],by omega,by simp,by simp, .nil k,by simp⟩
theorem HdL.nonneg {α:Type} {Hd:α->Int->Int->Prop} (hn:∀y k n,Hd y k n->0<=n) {b:List α} {k n:Int} (h:HdL Hd b k n):0<=n:=by
 induction h with
 |nil=>omega
 |cons h1 _ ih=>have:=hn _ _ _ h1;omega
theorem ZtD {α:Type} {F:((List α×(Int×Int))->Option Int)->(List α×(Int×Int))->Option Int} (Hd:α->Int->Int->Prop) (l:List α) (hl:l.length<=1048576) (hn:∀y k n,Hd y k n->0<=n)
  (h0:∀rec k,F rec (l,(k,(l.length:Int)))=some k)
  (h1:∀rec k (i:Nat) y n,l[i]? =some y->i < l.length->i < 1048576->0<=k->k + n<=1152921504606846976->0<=n->Hd y k n->F rec (l,(k,(i:Int)))=rec (l,(k + n,((i + 1:Nat):Int)))):
  ∀(m:Nat) (b:List α) (k n:Int) (i:Nat),l.drop i=b->i<=l.length->l.length - i < m->0<=k->k + n<=1152921504606846976->HdL Hd b k n->Zf F m (l,(k,(i:Int)))=some (k + n)
 | 0,b,k,n,i,_,_,hm,_,_,_=>by omega
 |m + 1,b,k,n,i,hb,hi,hm,hk,hkn,hd=>by
  rw [Ve];cases hd with
  |nil=>
   have:i=l.length:=by
    have:=UC List.length hb;simp at this;omega
   subst this;rw [h0];simp
  | @cons y ys _ n1 n2 g1 g2=>
   have hlt:i < l.length:=by
    have:=UC List.length hb;simp at this;omega
   have hy:l[i]? =some y:=by
    have:(l.drop i)[0]? =some y:=by rw [hb];rfl
    simpa using this
   have:=hn _ _ _ g1;have:=g2.nonneg hn;rw [h1 _ k i y n1 hy hlt (by omega) hk (by omega) (by omega) g1];have hb2:l.drop (i + 1)=ys:=by
    rw [UF hlt] at hb;exact (List.cons.inj hb).2
   rw [ZtD Hd l hl hn h0 h1 m ys (k + n1) n2 (i + 1) hb2 hlt (by omega) (by omega) (by omega) g2];congr 1;omega
theorem ZfI {α:Type} {F:(((Int×Int)×List α)->Option (Int×List α))->((Int×Int)×List α)->Option (Int×List α)} (Hd:α->Int->Int->Prop) (Q:α->Prop) (B:Int) (hB:0<=B) (a:List α) (h:Sm a) (hq:∀x∈a,Q x) (k:Int) (k0:0<=k) (k1:k + B * 1048576<=1152921504606846976)
  (h0:∀rec k (l:List α),F rec ((k,(l.length:Int)),l)=some (k,l))
  (h1:∀rec k (i:Nat) (l:List α) x,Q x->l[i]? =some x->i < l.length->i < 1048576->0<=k->k + B<=1152921504606846976->∃y n,0<=n/\n<=B/\Hd y k n/\F rec ((k,(i:Int)),l)=rec ((k + n,((i + 1:Nat):Int)),l.set i y)):
  ∃n b,0<=n/\n<=B * 1048576/\(Sm b/\HdL Hd b k n)/\Zf F NN ((k,0),a)=some (k + n,b):=by
 unfold Sm at h ⊢;have hb:B * (a.length:Int)<=B * 1048576:=Int.mul_le_mul_of_nonneg_left (by omega) hB;obtain ⟨n,b,g0,g1,g2,g3,g4⟩:=ZtC Hd Q B hB h0 h1 NN k 0 a (fun j x _ hx=>hq x (Uk hx)) (by omega) h (Kz (by omega)) k0 (by simp only [Nat.sub_zero];omega);simp only [Nat.sub_zero] at g1 g2;exact ⟨n,b,g0,by omega,⟨by omega,g3⟩,by simpa using g4⟩
theorem ZfJ {α:Type} {F:((List α×(Int×Int))->Option Int)->(List α×(Int×Int))->Option Int} (Hd:α->Int->Int->Prop) (hn:∀y k n,Hd y k n->0<=n) (b:List α) (k n:Int) (k0:0<=k) (k1:k + n<=1152921504606846976) (hd:Sm b/\HdL Hd b k n)
  (h0:∀rec k,F rec (b,(k,(b.length:Int)))=some k)
  (h1:∀rec k (i:Nat) y n,b[i]? =some y->i < b.length->i < 1048576->0<=k->k + n<=1152921504606846976->0<=n->Hd y k n->F rec (b,(k,(i:Int)))=rec (b,(k + n,((i + 1:Nat):Int)))):
  Zf F NN (b,(k,0))=some (k + n):=
 ZtD Hd b hd.1 hn h0 h1 NN b k n 0 rfl (by omega) (by have:=hd.1;unfold Sm at this;exact Kz (by omega)) k0 k1 hd.2
theorem JV {β:Type} {p:Prop} [Decidable p] (h:¬p) (x y:Option β):cnd (decide p) x y=y:=by
 unfold cnd;simp [h]
theorem ZfK {α β:Type} {l:List α} {i:Nat} (h:i < l.length) (y:α) (K:α->Option β):Xl (l.set i y) i K=K y:=X0 (by simp [h]) K
def ZfL (y:Path) (k n:Int):Prop:=y=(⟨k,k + 1,k + 1 + 1,k + 1 + 1 + 1⟩:Path)/\k + n=k + 1 + 1 + 1 + 1
theorem ZEw (y:Path) (k n:Int) (h:ZfL y k n):0<=n:=by
 unfold ZfL at h;omega
abbrev Zn6 (b:(List Path)) (k n:Int):Prop:=Sm b/\HdL ZfL b k n
theorem ZEx (a:(List Path)) (h:Sm a) (k:Int) (k0:0<=k) (k1:k + 4 * 1048576<=1152921504606846976):∃n b,0<=n/\n<=4 * 1048576/\Zn6 b k n/\ZjZ a k=some (k + n,b):=by
 unfold ZjZ;simp only [Zp,Zk,Zo,Zn,Zr,Zu];refine ZfI (F:=_) ZfL (fun _=>True) 4 (by omega) a h (fun _ _=>trivial) k k0 k1 ?_ ?_
 ·intro rec k l;simp
 ·intro rec k i l x hq hx hi hi2 hk hkb;refine ⟨(⟨k,k + 1,k + 1 + 1,k + 1 + 1 + 1⟩:Path),1 + 1 + 1 + 1,by omega,by omega,⟨rfl,by omega⟩,?_⟩;rw [show k + (1 + 1 + 1 + 1)=k + 1 + 1 + 1 + 1 by omega];simp (disch:=omega) [Yp,X0 hx,hi,Xb (show i<=9223372036854775806 by omega),ZfK hi,UU,MQ,Zz]
def ZfM (y:Int) (k n:Int):Prop:=y=k/\k + n=k + 1
theorem ZEy (y:Int) (k n:Int) (h:ZfM y k n):0<=n:=by
 unfold ZfM at h;omega
abbrev ZfN (b:(List Int)) (k n:Int):Prop:=Sm b/\HdL ZfM b k n
theorem Zn7 (a:(List Int)) (h:Sm a) (k:Int) (k0:0<=k) (k1:k + 1 * 1048576<=1152921504606846976):∃n b,0<=n/\n<=1 * 1048576/\ZfN b k n/\ZdB a k=some (k + n,b):=by
 unfold ZdB;simp only [Zp,Zk,Zo,Zn,Zr,Zq];refine ZfI (F:=_) ZfM (fun _=>True) 1 (by omega) a h (fun _ _=>trivial) k k0 k1 ?_ ?_
 ·intro rec k l;simp
 ·intro rec k i l x hq hx hi hi2 hk hkb;refine ⟨k,1,by omega,by omega,⟨rfl,by omega⟩,?_⟩;rw [show k + (1)=k + 1 by omega];simp (disch:=omega) [ZV,X0 hx,hi,Xb (show i<=9223372036854775806 by omega),ZfK hi,UU,MQ,Zz]
def Zn8 (y:Control) (k n:Int):Prop:=∃m0 m1:Int,0<=m0/\ZfN y.stage (k) m0/\0<=m1/\ZfN y.next (k + m0) m1/\k + n=k + m0 + m1
theorem ZEz (a:Control) (h:ZX a) (k:Int) (k0:0<=k) (k1:k + 2097152<=1152921504606846976):∃n b,0<=n/\n<=2097152/\Zn8 b k n/\Zj0 a k=some (k + n,b):=by
 obtain ⟨h0,h1⟩:=h;obtain ⟨n0,b0,c0,d0,f0,e0⟩:=Zn7 a.stage h0 (k) (by omega) (by omega);obtain ⟨n1,b1,c1,d1,f1,e1⟩:=Zn7 a.next h1 (k + n0) (by omega) (by omega);refine ⟨n0 + n1,(⟨b0,a.since,b1,a.left⟩:Control),by omega,by omega,⟨n0,n1,c0,f0,c1,f1,by omega⟩,?_⟩;rw [show k + (n0 + n1)=k + n0 + n1 by omega];unfold Zj0;simp [e0,e1]
def ZfO (y:Want) (k n:Int):Prop:=y=(⟨k,k + 1⟩:Want)/\k + n=k + 1 + 1
theorem ZEA (y:Want) (k n:Int) (h:ZfO y k n):0<=n:=by
 unfold ZfO at h;omega
abbrev Zn9 (b:(List Want)) (k n:Int):Prop:=Sm b/\HdL ZfO b k n
theorem ZEB (a:(List Want)) (h:Sm a) (k:Int) (k0:0<=k) (k1:k + 2 * 1048576<=1152921504606846976):∃n b,0<=n/\n<=2 * 1048576/\Zn9 b k n/\Zj1 a k=some (k + n,b):=by
 unfold Zj1;simp only [Zp,Zk,Zo,Zn,Zr,ZK];refine ZfI (F:=_) ZfO (fun _=>True) 2 (by omega) a h (fun _ _=>trivial) k k0 k1 ?_ ?_
 ·intro rec k l;simp
 ·intro rec k i l x hq hx hi hi2 hk hkb;refine ⟨(⟨k,k + 1⟩:Want),1 + 1,by omega,by omega,⟨rfl,by omega⟩,?_⟩;rw [show k + (1 + 1)=k + 1 + 1 by omega];simp (disch:=omega) [Xc,X0 hx,hi,Xb (show i<=9223372036854775806 by omega),ZfK hi,UU,MQ,Zz]
def ZfP (y:Lamp) (k n:Int):Prop:=y=(⟨k,k + 1,(Int.tmod (k + 1 + 1) 3==0)⟩:Lamp)/\k + n=k + 1 + 1 + 1
theorem ZEC (y:Lamp) (k n:Int) (h:ZfP y k n):0<=n:=by
 unfold ZfP at h;omega
abbrev Zoa (b:(List Lamp)) (k n:Int):Prop:=Sm b/\HdL ZfP b k n
theorem ZED (a:(List Lamp)) (h:Sm a) (k:Int) (k0:0<=k) (k1:k + 3 * 1048576<=1152921504606846976):∃n b,0<=n/\n<=3 * 1048576/\Zoa b k n/\Zj2 a k=some (k + n,b):=by
 unfold Zj2;simp only [Zp,Zk,Zo,Zn,Zr,ZT];refine ZfI (F:=_) ZfP (fun _=>True) 3 (by omega) a h (fun _ _=>trivial) k k0 k1 ?_ ?_
 ·intro rec k l;simp
 ·intro rec k i l x hq hx hi hi2 hk hkb;refine ⟨(⟨k,k + 1,(Int.tmod (k + 1 + 1) 3==0)⟩:Lamp),1 + 1 + 1,by omega,by omega,⟨rfl,by omega⟩,?_⟩;rw [show k + (1 + 1 + 1)=k + 1 + 1 + 1 by omega];simp (disch:=omega) [JI,X0 hx,hi,Xb (show i<=9223372036854775806 by omega),ZfK hi,UU,MQ,Zz]
def ZfQ (y:Note) (k n:Int):Prop:=∃m0:Int,y.second=k/\0<=m0/\ZfN y.lights (k + 1) m0/\y.sig=k + 1 + m0/\k + n=k + 1 + m0 + 1
theorem ZEE (y:Note) (k n:Int) (h:ZfQ y k n):0<=n:=by
 unfold ZfQ at h;obtain ⟨m0,h⟩:=h;omega
abbrev Zob (b:(List Note)) (k n:Int):Prop:=Sm b/\HdL ZfQ b k n
theorem ZEF (a:(List Note)) (h:(Sm a/\∀y∈a,YG y)) (k:Int) (k0:0<=k) (k1:k + 1048578 * 1048576<=1152921504606846976):∃n b,0<=n/\n<=1048578 * 1048576/\Zob b k n/\Zj3 a k=some (k + n,b):=by
 unfold Zj3;simp only [Zp,Zk,Zo,Zn,Zr,Zc8];refine ZfI (F:=_) ZfQ (fun x=>Sm x.lights) 1048578 (by omega) a h.1 h.2 k k0 k1 ?_ ?_
 ·intro rec k l;simp
 ·intro rec k i l x hq hx hi hi2 hk hkb;obtain ⟨n0,b0,c0,d0,f0,e0⟩:=Zn7 x.lights hq (k + 1) (by omega) (by omega);refine ⟨(⟨k,b0,k + 1 + n0⟩:Note),1 + n0 + 1,by omega,by omega,⟨n0,rfl,c0,f0,rfl,by omega⟩,?_⟩;rw [show k + (1 + n0 + 1)=k + 1 + n0 + 1 by omega];simp (disch:=omega) [e0,XE,X0 hx,hi,Xb (show i<=9223372036854775806 by omega),ZfK hi,UU,MQ,Zz]
def ZtE (y:Town) (k n:Int):Prop:=∃m0 m1 m2 m3 m4:Int,0<=m0/\Zn6 y.paths (k) m0/\0<=m1/\Zn8 y.control (k + m0) m1/\0<=m2/\Zn9 y.wants (k + m0 + m1) m2/\0<=m3/\Zoa y.lamps (k + m0 + m1 + m2) m3/\0<=m4/\Zob y.record (k + m0 + m1 + m2 + m3) m4/\k + n=k + m0 + m1 + m2 + m3 + m4
theorem ZtF (a:Town) (h:Zx a) (k:Int) (k0:0<=k) (k1:k + 1099525259264<=1152921504606846976):∃n b,0<=n/\n<=1099525259264/\ZtE b k n/\ZfF a k=some (k + n,b):=by
 obtain ⟨h0,h1,h2,h3,h4⟩:=h;obtain ⟨n0,b0,c0,d0,f0,e0⟩:=ZEx a.paths h0 (k) (by omega) (by omega);obtain ⟨n1,b1,c1,d1,f1,e1⟩:=ZEz a.control h1 (k + n0) (by omega) (by omega);obtain ⟨n2,b2,c2,d2,f2,e2⟩:=ZEB a.wants h2 (k + n0 + n1) (by omega) (by omega);obtain ⟨n3,b3,c3,d3,f3,e3⟩:=ZED a.lamps h3 (k + n0 + n1 + n2) (by omega) (by omega);obtain ⟨n4,b4,c4,d4,f4,e4⟩:=ZEF a.record h4 (k + n0 + n1 + n2 + n3) (by omega) (by omega);refine ⟨n0 + n1 + n2 + n3 + n4,(⟨b0,b1,b2,a.prio,b3,a.power,b4,a.books,a.now⟩:Town),by omega,by omega,⟨n0,n1,n2,n3,n4,c0,f0,c1,f1,c2,f2,c3,f3,c4,f4,by omega⟩,?_⟩;rw [show k + (n0 + n1 + n2 + n3 + n4)=k + n0 + n1 + n2 + n3 + n4 by omega];unfold ZfF;simp [e0,e1,e2,e3,e4]
theorem ZEG (b:(List Path)) (k n:Int) (k0:0<=k) (k1:k + n<=1152921504606846976) (h:Zn6 b k n):Zj4 b k=some (k + n):=by
 unfold Zj4;simp only [Zp,Zk,Zo,Zn,Zr,Zu];refine ZfJ (F:=_) ZfL ZEw b k n k0 k1 h ?_ ?_
 ·intro rec k;simp
 ·intro rec k i y n hy hi hi2 hk hkb hn hd;obtain ⟨e1,e2⟩:=hd;rw [e2];simp (disch:=omega) [Yp,Zi hy,hi,Xb (show i<=9223372036854775806 by omega),Zz,JV,e1]
theorem Zoc (b:(List Int)) (k n:Int) (k0:0<=k) (k1:k + n<=1152921504606846976) (h:ZfN b k n):ZdC b k=some (k + n):=by
 unfold ZdC;simp only [Zp,Zk,Zo,Zn,Zr,Zq];refine ZfJ (F:=_) ZfM ZEy b k n k0 k1 h ?_ ?_
 ·intro rec k;simp
 ·intro rec k i y n hy hi hi2 hk hkb hn hd;obtain ⟨e1,e2⟩:=hd;rw [e2];simp (disch:=omega) [ZV,Zi hy,hi,Xb (show i<=9223372036854775806 by omega),Zz,JV,e1]
theorem ZEH (b:Control) (k n:Int) (k0:0<=k) (k1:k + n<=1152921504606846976) (h:Zn8 b k n):Zj5 b k=some (k + n):=by
 unfold Zj5;obtain ⟨m0,m1,c0,f0,c1,f1,hn2⟩:=h;rw [hn2];have e0:=Zoc b.stage (k) m0 (by omega) (by omega) f0;have e1:=Zoc b.next (k + m0) m1 (by omega) (by omega) f1;simp (disch:=omega) [e0,e1,JV]
theorem ZEI (b:(List Want)) (k n:Int) (k0:0<=k) (k1:k + n<=1152921504606846976) (h:Zn9 b k n):Zj6 b k=some (k + n):=by
 unfold Zj6;simp only [Zp,Zk,Zo,Zn,Zr,ZK];refine ZfJ (F:=_) ZfO ZEA b k n k0 k1 h ?_ ?_
 ·intro rec k;simp
 ·intro rec k i y n hy hi hi2 hk hkb hn hd;obtain ⟨e1,e2⟩:=hd;rw [e2];simp (disch:=omega) [Xc,Zi hy,hi,Xb (show i<=9223372036854775806 by omega),Zz,JV,e1]
theorem ZEJ (b:(List Lamp)) (k n:Int) (k0:0<=k) (k1:k + n<=1152921504606846976) (h:Zoa b k n):Zj7 b k=some (k + n):=by
 unfold Zj7;simp only [Zp,Zk,Zo,Zn,Zr,ZT];refine ZfJ (F:=_) ZfP ZEC b k n k0 k1 h ?_ ?_
 ·intro rec k;simp
 ·intro rec k i y n hy hi hi2 hk hkb hn hd;obtain ⟨e1,e2⟩:=hd;rw [e2];simp (disch:=omega) [JI,Zi hy,hi,Xb (show i<=9223372036854775806 by omega),Zz,JV,e1]
theorem ZEK (b:(List Note)) (k n:Int) (k0:0<=k) (k1:k + n<=1152921504606846976) (h:Zob b k n):Zj8 b k=some (k + n):=by
 unfold Zj8;simp only [Zp,Zk,Zo,Zn,Zr,ZS];refine ZfJ (F:=_) ZfQ ZEE b k n k0 k1 h ?_ ?_
 ·intro rec k;simp
 ·intro rec k i y n hy hi hi2 hk hkb hn hd;obtain ⟨m0,g0,cm0,fm0,g1,hn2⟩:=hd;rw [hn2];have em0:=Zoc y.lights (k + 1) m0 (by omega) (by omega) fm0;simp (disch:=omega) [em0,XE,Zi hy,hi,Xb (show i<=9223372036854775806 by omega),Zz,JV,g0,g1]
theorem ZEL (b:Town) (k n:Int) (k0:0<=k) (k1:k + n<=1152921504606846976) (h:ZtE b k n):ZfG b k=some (k + n):=by
 unfold ZfG;obtain ⟨m0,m1,m2,m3,m4,c0,f0,c1,f1,c2,f2,c3,f3,c4,f4,hn2⟩:=h;rw [hn2];have e0:=ZEG b.paths (k) m0 (by omega) (by omega) f0;have e1:=ZEH b.control (k + m0) m1 (by omega) (by omega) f1;have e2:=ZEI b.wants (k + m0 + m1) m2 (by omega) (by omega) f2;have e3:=ZEJ b.lamps (k + m0 + m1 + m2) m3 (by omega) (by omega) f3;have e4:=ZEK b.record (k + m0 + m1 + m2 + m3) m4 (by omega) (by omega) f4;simp (disch:=omega) [e0,e1,e2,e3,e4,JV]
end Go.Sh
