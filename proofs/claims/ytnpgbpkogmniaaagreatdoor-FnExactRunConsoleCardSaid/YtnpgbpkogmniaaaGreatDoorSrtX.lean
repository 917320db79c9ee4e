/- Part of the proof: see the last text of the claim. -/
import Derived.Test.YtnpgbpkogmniaaaGreatDoorFzZK
import Derived.Test.YtnpgbpkogmniaaaGreatDoorProg
import Derived.Shelf.SlSortCmp.NoneTotal
import Derived.WalkKit
import Derived.Deep.LoopGhost
import Derived.Shelf.RegionOpenPlain
import Derived.KernelRfl
set_option linter.all false
namespace Go.Proofs.YtnpgbpkogmniaaaGreatDoor
open Go.Shelf Go.RowKit Go.Proofs Go.Fx
set_option maxRecDepth 100000
def ZGt:Go.Shelf.Ren:=⟨fun | 6=>272 | 15=>326 | 14=>325 | 28=>363 | 29=>364 | 20=>355 | 21=>356 | 22=>357 | 23=>358 | 24=>359 | 25=>360 | 26=>361 | 27=>362 | 46=>379 | 47=>380 | 48=>381 | 49=>382 | 50=>383 | 57=>389 |n=>n,fun | 22=>139 | 24=>29 | 25=>226 | 3=>3 | 39=>232 | 0=>0 | 53=>268 | 55=>289 | 4=>4 | 46=>282 | 45=>281 | 50=>109 | 5=>5 | 9=>9 | 66=>302 | 70=>306 | 76=>312 | 77=>295 |n=>n,fun n=>n⟩
theorem Zu4:Go.Proofs.SlLaysF.n6 Tryz.prog ZGt where
 mixed:=by kernel_rfl
 f6:=⟨Tryz.f272.name,by kernel_rfl,Tryz.func272.trans (UC some (by kernel_rfl))⟩
 f14:=⟨Tryz.f325.name,by kernel_rfl,Tryz.func325.trans (UC some (by kernel_rfl))⟩
 f15:=Tryz.func326.trans (UC some (by kernel_rfl))
 f20:=⟨Tryz.f355.name,by kernel_rfl,Tryz.func355.trans (UC some (by kernel_rfl))⟩
 f21:=⟨Tryz.f356.name,by kernel_rfl,Tryz.func356.trans (UC some (by kernel_rfl))⟩
 f22:=⟨Tryz.f357.name,by kernel_rfl,Tryz.func357.trans (UC some (by kernel_rfl))⟩
 f23:=⟨Tryz.f358.name,by kernel_rfl,Tryz.func358.trans (UC some (by kernel_rfl))⟩
 f24:=⟨Tryz.f359.name,by kernel_rfl,Tryz.func359.trans (UC some (by kernel_rfl))⟩
 f25:=⟨Tryz.f360.name,by kernel_rfl,Tryz.func360.trans (UC some (by kernel_rfl))⟩
 f26:=⟨Tryz.f361.name,by kernel_rfl,Tryz.func361.trans (UC some (by kernel_rfl))⟩
 f27:=⟨Tryz.f362.name,by kernel_rfl,Tryz.func362.trans (UC some (by kernel_rfl))⟩
 f28:=Tryz.func363.trans (UC some (by kernel_rfl))
 f29:=Tryz.func364.trans (UC some (by kernel_rfl))
 f46:=⟨Tryz.f379.name,by kernel_rfl,Tryz.func379.trans (UC some (by kernel_rfl))⟩
 f47:=Tryz.func380.trans (UC some (by kernel_rfl))
 f48:=Tryz.func381.trans (UC some (by kernel_rfl))
 f49:=⟨Tryz.f382.name,by kernel_rfl,Tryz.func382.trans (UC some (by kernel_rfl))⟩
 f50:=⟨Tryz.f383.name,by kernel_rfl,Tryz.func383.trans (UC some (by kernel_rfl))⟩
 f57:=⟨Tryz.f389.name,by kernel_rfl,Tryz.func389.trans (UC some (by kernel_rfl))⟩
 t0:=Tryz.underlying0
 a0:=Tryz.isAgg0
 z0:=Tryz.sizeOf0
 v0:=Tryz.zeroValue0
 t3:=Tryz.underlying3
 a3:=Tryz.isAgg3
 z3:=Tryz.sizeOf3
 v3:=Tryz.zeroValue3
 t4:=Tryz.underlying4
 a4:=Tryz.isAgg4
 z4:=Tryz.sizeOf4
 v4:=Tryz.zeroValue4
 t5:=Tryz.underlying5
 a5:=Tryz.isAgg5
 z5:=Tryz.sizeOf5
 v5:=Tryz.zeroValue5
 t9:=Tryz.underlying9
 a9:=Tryz.isAgg9
 z9:=Tryz.sizeOf9
 v9:=Tryz.zeroValue9
 t22:=Tryz.underlying139
 a22:=Tryz.isAgg139
 z22:=Tryz.sizeOf139
 v22:=Tryz.zeroValue139
 a24:=Tryz.isAgg29
 z24:=Tryz.sizeOf29
 t25:=Tryz.underlying226
 a25:=Tryz.isAgg226
 z25:=Tryz.sizeOf226
 v25:=Tryz.zeroValue226
 t39:=Tryz.underlying232
 a39:=Tryz.isAgg232
 z39:=Tryz.sizeOf232
 v39:=Tryz.zeroValue232
 t45:=Tryz.underlying281
 a45:=Tryz.isAgg281
 z45:=Tryz.sizeOf281
 v45:=Tryz.zeroValue281
 t46:=Tryz.underlying282
 a46:=Tryz.isAgg282
 z46:=Tryz.sizeOf282
 v46:=Tryz.zeroValue282
 t50:=Tryz.underlying109
 a50:=Tryz.isAgg109
 z50:=Tryz.sizeOf109
 v50:=Tryz.zeroValue109
 t53:=Tryz.underlying268
 a53:=Tryz.isAgg268
 z53:=Tryz.sizeOf268
 v53:=Tryz.zeroValue268
 t55:=Tryz.underlying289
 a55:=Tryz.isAgg289
 z55:=Tryz.sizeOf289
 v55:=Tryz.zeroValue289
 t66:=Tryz.underlying302
 a66:=Tryz.isAgg302
 z66:=Tryz.sizeOf302
 v66:=Tryz.zeroValue302
 t70:=Tryz.underlying306
 a70:=Tryz.isAgg306
 z70:=Tryz.sizeOf306
 v70:=Tryz.zeroValue306
 t76:=Tryz.underlying312
 a76:=Tryz.isAgg312
 z76:=Tryz.sizeOf312
 v76:=Tryz.zeroValue312
 t77:=Tryz.underlying295
 a77:=Tryz.isAgg295
 z77:=Tryz.sizeOf295
 v77:=Tryz.zeroValue295
theorem ZGu (x:Int) (w:World):Calls Tryz.prog 365 #[.int .i64 x] w fun e w'=>e= .returned (.bool false)/\w'=w:=by
 go_enter Tryz.func365,Tryz.ntmps365
 go_wp2
 all_goals (go_ret;exact ⟨rfl,rfl⟩)
theorem Zu5 (x y:Int) (w:World):Calls Tryz.prog 327 #[.int .i64 x, .int .i64 y] w fun e w'=>e= .returned (.int .i64 (ZaB x y))/\w'=w:=by
 have e49:∀args w,(callFunc 365 args).run Tryz.prog w= .ok (.enter 365 args) w:=fun args w=>Fx.run_callFunc Tryz.func365 (by kernel_rfl) rfl _ _
 go_enter Tryz.func327,Tryz.ntmps327
 go_wp2_with (go_at_fn 365;refine (ZGu _ _).mono ?_;rintro e w' ⟨rfl,hw⟩;rw [hw])
 all_goals (go_ret;refine ⟨?_,rfl⟩;unfold ZaB;(repeat' split) <;> first |rfl | (exfalso;omega))
theorem Zu6 {xs ys:List Int} {k:Nat} (hx:k < xs.length) (hy:k < ys.length):XV (xs.drop k) (ys.drop k)=if ZaB xs[k]! ys[k]! =0 then XV (xs.drop (k + 1)) (ys.drop (k + 1)) else ZaB xs[k]! ys[k]! :=by
 rw [UH hx,UH hy,XV,M9 xs k hx,M9 ys k hy]
set_option maxHeartbeats 2000000 in
theorem ZGv (A1 A2:Option Addr) (b1 o1 n c b2 o2 m d:Nat) (xs ys:List Int) (w:World) (hn:xs.length=n) (hm:ys.length=m) (hbig:n<=9223372036854775807) (hbig2:m<=9223372036854775807)
  (hA1:0 < n->A1=some ⟨b1,o1,none⟩) (hA2:0 < m->A2=some ⟨b2,o2,none⟩) (h1:∀j,j < n->w.cell? ⟨b1,o1 + j,none⟩=some (.int .i64 xs[j]!)) (h2:∀j,j < m->w.cell? ⟨b2,o2 + j,none⟩=some (.int .i64 ys[j]!)):
  Calls Tryz.prog 273 #[.slice A1 n c, .slice A2 m d] w fun e w'=>e= .returned (.int .i64 (XV xs ys))/\w'=w:=by
 have e32:∀args w,(callFunc 327 args).run Tryz.prog w= .ok (.enter 327 args) w:=fun args w=>Fx.run_callFunc Tryz.func327 (by kernel_rfl) rfl _ _
 have H0:Aside (xs.length=n/\ys.length=m):=⟨hn,hm⟩
 clear hn hm
 go_enter Tryz.func273,Tryz.ntmps273
 go_wp2
 go_loopg [11] n (fun g s11 wr=>wr=w/\∃k:Nat,k<=n/\k<=m/\g=n - k/\s11= .int .i64 k/\Aside (XV (xs.drop k) (ys.drop k)=XV xs ys))
 case atStart=>exact ⟨rfl,0,Mb _,Mb _,rfl,rfl,rfl⟩
 case round=>
  obtain ⟨rfl,k,hk,hk2,rfl,rfl,A⟩:=hrel;by_cases hlt:k < n
  ·obtain rfl:=hA1 (by omega);have g1:=h1 k hlt;by_cases hlt2:k < m
   ·obtain rfl:=hA2 (by omega);have g2:=h2 k hlt2;clear h1 h2;generalize hx:xs[k]! =x at g1;generalize hy:ys[k]! =y at g2;have B:Aside (xs[k]! =x/\ys[k]! =y):=⟨hx,hy⟩
    clear hx hy;by_cases hc:ZaB x y=0
    ·go_wp2_with (go_at_fn 327;refine (Zu5 _ _ _).mono ?_;rintro e w' ⟨rfl,hw⟩;rw [hw];rw [hc])
     go_roundg (n - (k + 1))
     case measure=>omega
     case rel=>
      refine ⟨rfl,k + 1,by omega,by omega,rfl,by go_num,?_⟩;have:=Zu6 (xs:=xs) (ys:=ys) (k:=k) (by rw [H0.out.1];exact hlt) (by rw [H0.out.2];exact hlt2);rw [B.out.1,B.out.2,Uh hc] at this;exact this.symm.trans A.out
    ·go_wp2_with (go_at_fn 327;refine (Zu5 _ _ _).mono ?_;rintro e w' ⟨rfl,hw⟩;rw [hw])
     go_ret
     refine ⟨?_,rfl⟩;have:=Zu6 (xs:=xs) (ys:=ys) (k:=k) (by rw [H0.out.1];exact hlt) (by rw [H0.out.2];exact hlt2);rw [B.out.1,B.out.2,Uf hc] at this;rw [←A.out,this];rfl
   ·clear h1 h2;have:m=k:=by omega
    go_wp2
    go_ret
    refine ⟨?_,rfl⟩;have hx:=H0.out.1;have hy:=H0.out.2;rw [←A.out,U1 (show ys.length<=k by omega),UH (show k < xs.length by omega)];rfl
  ·have:n=k:=by omega
   clear h1 h2;by_cases hlt2:n < m
   ·go_wp2
    go_ret
    refine ⟨?_,rfl⟩;have hx:=H0.out.1;have hy:=H0.out.2;rw [←A.out,U1 (show xs.length<=k by omega),UH (show k < ys.length by omega)];rfl
   ·go_wp2
    go_ret
    refine ⟨?_,rfl⟩;have hx:=H0.out.1;have hy:=H0.out.2;rw [←A.out,U1 (show xs.length<=k by omega),U1 (show ys.length<=k by omega)];rfl
theorem ZGw (xs ys:List Int) (v1 v2:Value) (w:World) (h1:ReadI w v1 xs (fun _ _=>True)) (h2:ReadI w v2 ys (fun _ _=>True)):Calls Tryz.prog 273 #[v1,v2] w fun e w'=>e= .returned (.int .i64 (XV xs ys))/\w'=w:=by
 obtain ⟨A1,n,c,b1,o1,rfl,hn,hl,ha,hc⟩:=h1;obtain ⟨A2,m,d,b2,o2,rfl,hm,hl2,ha2,hc2⟩:=h2;unfold maxLen at hl hl2;exact ZGv A1 A2 b1 o1 n c b2 o2 m d xs ys w hn hm (by omega) (by omega) (fun h=>(ha h).1) (fun h=>(ha2 h).1) (fun j hj=>(hc j hj).2) (fun j hj=>(hc2 j hj).2)
theorem ZGx {l:List (List Int)} {r:List (List Int)} (h:ifA (l.length < 4611686018427387904) (some (Qu l))=some r):l.length < 4611686018427387904/\Qu l=r:=by
 unfold ifA at h;split at h
 ·exact ⟨‹_›,Uo h⟩
 ·cases h
theorem ZGy {ng:Nat} {G0:Nat->Option Obj}:∀x:List (List Int),x.length < 4611686018427387904->Zg0 Tryz.prog ng G0 272 [.slc .unq 1 (x.map (ZcD .own)), .fn 273 []] (.tup [.tup [], .slc .unq 1 ((Qu x).map (ZcD .own))]):=
 ZGs (.inl rfl) Zu4 rfl Tryz.func272 (by kernel_rfl) rfl (fun args w=>run_callFunc Tryz.func273 (by kernel_rfl) rfl _ _) (AnyF.slices_SortFunc_none {Zu4 with}) ZGw
end Go.Proofs.YtnpgbpkogmniaaaGreatDoor
