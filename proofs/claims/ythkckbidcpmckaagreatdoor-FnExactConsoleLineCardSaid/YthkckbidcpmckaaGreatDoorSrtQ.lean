/- Part of the proof: see the last text of the claim. -/
import Derived.Test.YthkckbidcpmckaaGreatDoorFzZK
import Derived.Test.YthkckbidcpmckaaGreatDoorProg
import Derived.Shelf.SlSortCmp.NoneTotal
import Derived.WalkKit
import Derived.Deep.LoopGhost
import Derived.Shelf.RegionOpenPlain
import Derived.KernelRfl
set_option linter.all false
namespace Go.Proofs.YthkckbidcpmckaaGreatDoor
open Go.Shelf Go.RowKit Go.Proofs Go.Fx
set_option maxRecDepth 100000
def ZIS:Go.Shelf.Ren:=⟨fun | 6=>265 | 15=>319 | 14=>318 | 28=>356 | 29=>357 | 20=>348 | 21=>349 | 22=>350 | 23=>351 | 24=>352 | 25=>353 | 26=>354 | 27=>355 | 46=>372 | 47=>373 | 48=>374 | 49=>375 | 50=>376 | 57=>382 |n=>n,fun | 22=>132 | 24=>23 | 25=>221 | 3=>3 | 39=>234 | 0=>0 | 53=>265 | 55=>284 | 4=>4 | 46=>277 | 45=>276 | 50=>101 | 5=>5 | 9=>9 | 66=>297 | 70=>301 | 76=>307 | 77=>290 |n=>n,fun n=>n⟩
theorem Zwq:Go.Proofs.SlLaysF.n6 Tryz.prog ZIS where
 mixed:=by kernel_rfl
 f6:=⟨Tryz.f265.name,by kernel_rfl,Tryz.func265.trans (UC some (by kernel_rfl))⟩
 f14:=⟨Tryz.f318.name,by kernel_rfl,Tryz.func318.trans (UC some (by kernel_rfl))⟩
 f15:=Tryz.func319.trans (UC some (by kernel_rfl))
 f20:=⟨Tryz.f348.name,by kernel_rfl,Tryz.func348.trans (UC some (by kernel_rfl))⟩
 f21:=⟨Tryz.f349.name,by kernel_rfl,Tryz.func349.trans (UC some (by kernel_rfl))⟩
 f22:=⟨Tryz.f350.name,by kernel_rfl,Tryz.func350.trans (UC some (by kernel_rfl))⟩
 f23:=⟨Tryz.f351.name,by kernel_rfl,Tryz.func351.trans (UC some (by kernel_rfl))⟩
 f24:=⟨Tryz.f352.name,by kernel_rfl,Tryz.func352.trans (UC some (by kernel_rfl))⟩
 f25:=⟨Tryz.f353.name,by kernel_rfl,Tryz.func353.trans (UC some (by kernel_rfl))⟩
 f26:=⟨Tryz.f354.name,by kernel_rfl,Tryz.func354.trans (UC some (by kernel_rfl))⟩
 f27:=⟨Tryz.f355.name,by kernel_rfl,Tryz.func355.trans (UC some (by kernel_rfl))⟩
 f28:=Tryz.func356.trans (UC some (by kernel_rfl))
 f29:=Tryz.func357.trans (UC some (by kernel_rfl))
 f46:=⟨Tryz.f372.name,by kernel_rfl,Tryz.func372.trans (UC some (by kernel_rfl))⟩
 f47:=Tryz.func373.trans (UC some (by kernel_rfl))
 f48:=Tryz.func374.trans (UC some (by kernel_rfl))
 f49:=⟨Tryz.f375.name,by kernel_rfl,Tryz.func375.trans (UC some (by kernel_rfl))⟩
 f50:=⟨Tryz.f376.name,by kernel_rfl,Tryz.func376.trans (UC some (by kernel_rfl))⟩
 f57:=⟨Tryz.f382.name,by kernel_rfl,Tryz.func382.trans (UC some (by kernel_rfl))⟩
 t0:=Tryz.underlying0
 a0:=Tryz.isAgg0
 z0:=Tryz.sizeOf0
 v0:=Tryz.zeroValue0
 t3:=Tryz.underlying3
 a3:=Tryz.isAgg3
 z3:=Tryz.sizeOf3
 v3:=Tryz.zeroValue3
 t4:=Tryz.underlying4
 a4:=Tryz.isAgg4
 z4:=Tryz.sizeOf4
 v4:=Tryz.zeroValue4
 t5:=Tryz.underlying5
 a5:=Tryz.isAgg5
 z5:=Tryz.sizeOf5
 v5:=Tryz.zeroValue5
 t9:=Tryz.underlying9
 a9:=Tryz.isAgg9
 z9:=Tryz.sizeOf9
 v9:=Tryz.zeroValue9
 t22:=Tryz.underlying132
 a22:=Tryz.isAgg132
 z22:=Tryz.sizeOf132
 v22:=Tryz.zeroValue132
 a24:=Tryz.isAgg23
 z24:=Tryz.sizeOf23
 t25:=Tryz.underlying221
 a25:=Tryz.isAgg221
 z25:=Tryz.sizeOf221
 v25:=Tryz.zeroValue221
 t39:=Tryz.underlying234
 a39:=Tryz.isAgg234
 z39:=Tryz.sizeOf234
 v39:=Tryz.zeroValue234
 t45:=Tryz.underlying276
 a45:=Tryz.isAgg276
 z45:=Tryz.sizeOf276
 v45:=Tryz.zeroValue276
 t46:=Tryz.underlying277
 a46:=Tryz.isAgg277
 z46:=Tryz.sizeOf277
 v46:=Tryz.zeroValue277
 t50:=Tryz.underlying101
 a50:=Tryz.isAgg101
 z50:=Tryz.sizeOf101
 v50:=Tryz.zeroValue101
 t53:=Tryz.underlying265
 a53:=Tryz.isAgg265
 z53:=Tryz.sizeOf265
 v53:=Tryz.zeroValue265
 t55:=Tryz.underlying284
 a55:=Tryz.isAgg284
 z55:=Tryz.sizeOf284
 v55:=Tryz.zeroValue284
 t66:=Tryz.underlying297
 a66:=Tryz.isAgg297
 z66:=Tryz.sizeOf297
 v66:=Tryz.zeroValue297
 t70:=Tryz.underlying301
 a70:=Tryz.isAgg301
 z70:=Tryz.sizeOf301
 v70:=Tryz.zeroValue301
 t76:=Tryz.underlying307
 a76:=Tryz.isAgg307
 z76:=Tryz.sizeOf307
 v76:=Tryz.zeroValue307
 t77:=Tryz.underlying290
 a77:=Tryz.isAgg290
 z77:=Tryz.sizeOf290
 v77:=Tryz.zeroValue290
theorem ZIT (x:Int) (w:World):Calls Tryz.prog 358 #[.int .i64 x] w fun e w'=>e= .returned (.bool false)/\w'=w:=by
 go_enter Tryz.func358,Tryz.ntmps358
 go_wp2
 all_goals (go_ret;exact ⟨rfl,rfl⟩)
theorem Zwr (x y:Int) (w:World):Calls Tryz.prog 320 #[.int .i64 x, .int .i64 y] w fun e w'=>e= .returned (.int .i64 (Zap x y))/\w'=w:=by
 have e49:∀args w,(callFunc 358 args).run Tryz.prog w= .ok (.enter 358 args) w:=fun args w=>Fx.run_callFunc Tryz.func358 (by kernel_rfl) rfl _ _
 go_enter Tryz.func320,Tryz.ntmps320
 go_wp2_with (go_at_fn 358;refine (ZIT _ _).mono ?_;rintro e w' ⟨rfl,hw⟩;rw [hw])
 all_goals (go_ret;refine ⟨?_,rfl⟩;unfold Zap;(repeat' split) <;> first |rfl | (exfalso;omega))
theorem Zws {xs ys:List Int} {k:Nat} (hx:k < xs.length) (hy:k < ys.length):XZ (xs.drop k) (ys.drop k)=if Zap xs[k]! ys[k]! =0 then XZ (xs.drop (k + 1)) (ys.drop (k + 1)) else Zap xs[k]! ys[k]! :=by
 rw [UF hx,UF hy,XZ,M9 xs k hx,M9 ys k hy]
set_option maxHeartbeats 2000000 in
theorem ZIU (A1 A2:Option Addr) (b1 o1 n c b2 o2 m d:Nat) (xs ys:List Int) (w:World) (hn:xs.length=n) (hm:ys.length=m) (hbig:n<=9223372036854775807) (hbig2:m<=9223372036854775807)
  (hA1:0 < n->A1=some ⟨b1,o1,none⟩) (hA2:0 < m->A2=some ⟨b2,o2,none⟩) (h1:∀j,j < n->w.cell? ⟨b1,o1 + j,none⟩=some (.int .i64 xs[j]!)) (h2:∀j,j < m->w.cell? ⟨b2,o2 + j,none⟩=some (.int .i64 ys[j]!)):
  Calls Tryz.prog 266 #[.slice A1 n c, .slice A2 m d] w fun e w'=>e= .returned (.int .i64 (XZ xs ys))/\w'=w:=by
 have e32:∀args w,(callFunc 320 args).run Tryz.prog w= .ok (.enter 320 args) w:=fun args w=>Fx.run_callFunc Tryz.func320 (by kernel_rfl) rfl _ _
 have H0:Aside (xs.length=n/\ys.length=m):=⟨hn,hm⟩
 clear hn hm
 go_enter Tryz.func266,Tryz.ntmps266
 go_wp2
 go_loopg [11] n (fun g s11 wr=>wr=w/\∃k:Nat,k<=n/\k<=m/\g=n - k/\s11= .int .i64 k/\Aside (XZ (xs.drop k) (ys.drop k)=XZ xs ys))
 case atStart=>exact ⟨rfl,0,Mm _,Mm _,rfl,rfl,rfl⟩
 case round=>
  obtain ⟨rfl,k,hk,hk2,rfl,rfl,A⟩:=hrel;by_cases hlt:k < n
  ·obtain rfl:=hA1 (by omega);have g1:=h1 k hlt;by_cases hlt2:k < m
   ·obtain rfl:=hA2 (by omega);have g2:=h2 k hlt2;clear h1 h2;generalize hx:xs[k]! =x at g1;generalize hy:ys[k]! =y at g2;have B:Aside (xs[k]! =x/\ys[k]! =y):=⟨hx,hy⟩
    clear hx hy;by_cases hc:Zap x y=0
    ·go_wp2_with (go_at_fn 320;refine (Zwr _ _ _).mono ?_;rintro e w' ⟨rfl,hw⟩;rw [hw];rw [hc])
     go_roundg (n - (k + 1))
     case measure=>omega
     case rel=>
      refine ⟨rfl,k + 1,by omega,by omega,rfl,by go_num,?_⟩;have:=Zws (xs:=xs) (ys:=ys) (k:=k) (by rw [H0.out.1];exact hlt) (by rw [H0.out.2];exact hlt2);rw [B.out.1,B.out.2,Ul hc] at this;exact this.symm.trans A.out
    ·go_wp2_with (go_at_fn 320;refine (Zwr _ _ _).mono ?_;rintro e w' ⟨rfl,hw⟩;rw [hw])
     go_ret
     refine ⟨?_,rfl⟩;have:=Zws (xs:=xs) (ys:=ys) (k:=k) (by rw [H0.out.1];exact hlt) (by rw [H0.out.2];exact hlt2);rw [B.out.1,B.out.2,Uf hc] at this;rw [←A.out,this];rfl
   ·clear h1 h2;have:m=k:=by omega
    go_wp2
    go_ret
    refine ⟨?_,rfl⟩;have hx:=H0.out.1;have hy:=H0.out.2;rw [←A.out,Me (show ys.length<=k by omega),UF (show k < xs.length by omega)];rfl
  ·have:n=k:=by omega
   clear h1 h2;by_cases hlt2:n < m
   ·go_wp2
    go_ret
    refine ⟨?_,rfl⟩;have hx:=H0.out.1;have hy:=H0.out.2;rw [←A.out,Me (show xs.length<=k by omega),UF (show k < ys.length by omega)];rfl
   ·go_wp2
    go_ret
    refine ⟨?_,rfl⟩;have hx:=H0.out.1;have hy:=H0.out.2;rw [←A.out,Me (show xs.length<=k by omega),Me (show ys.length<=k by omega)];rfl
theorem ZIV (xs ys:List Int) (v1 v2:Value) (w:World) (h1:ReadI w v1 xs (fun _ _=>True)) (h2:ReadI w v2 ys (fun _ _=>True)):Calls Tryz.prog 266 #[v1,v2] w fun e w'=>e= .returned (.int .i64 (XZ xs ys))/\w'=w:=by
 obtain ⟨A1,n,c,b1,o1,rfl,hn,hl,ha,hc⟩:=h1;obtain ⟨A2,m,d,b2,o2,rfl,hm,hl2,ha2,hc2⟩:=h2;unfold maxLen at hl hl2;exact ZIU A1 A2 b1 o1 n c b2 o2 m d xs ys w hn hm (by omega) (by omega) (fun h=>(ha h).1) (fun h=>(ha2 h).1) (fun j hj=>(hc j hj).2) (fun j hj=>(hc2 j hj).2)
theorem ZIW {l:List (List Int)} {r:List (List Int)} (h:ifA (l.length < 4611686018427387904) (some (Qx l))=some r):l.length < 4611686018427387904/\Qx l=r:=by
 unfold ifA at h;split at h
 ·exact ⟨‹_›,Un h⟩
 ·cases h
theorem ZIX {ng:Nat} {G0:Nat->Option Obj}:∀x:List (List Int),x.length < 4611686018427387904->Zhp Tryz.prog ng G0 265 [.slc .unq 1 (x.map (ZcE .own)), .fn 266 []] (.tup [.tup [], .slc .unq 1 ((Qx x).map (ZcE .own))]):=
 ZIR (.inl rfl) Zwq rfl Tryz.func265 (by kernel_rfl) rfl (fun args w=>run_callFunc Tryz.func266 (by kernel_rfl) rfl _ _) (AnyF.slices_SortFunc_none {Zwq with}) ZIV
end Go.Proofs.YthkckbidcpmckaaGreatDoor
