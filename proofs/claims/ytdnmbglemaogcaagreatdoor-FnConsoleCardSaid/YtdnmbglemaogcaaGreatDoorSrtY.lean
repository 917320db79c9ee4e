/- Part of the proof: see the last text of the claim. -/
import Derived.Test.YtdnmbglemaogcaaGreatDoorFzZK
import Derived.Test.YtdnmbglemaogcaaGreatDoorProg
import Derived.Shelf.SlSortCmp.NoneTotal
import Derived.WalkKit
import Derived.Deep.LoopGhost
import Derived.Shelf.RegionOpenPlain
import Derived.KernelRfl
set_option linter.all false
namespace Go.Proofs.YtdnmbglemaogcaaGreatDoor
open Go.Shelf Go.RowKit Go.Proofs Go.Fx
set_option maxRecDepth 100000
def ZEQ:Go.Shelf.Ren:=⟨fun | 6=>191 | 15=>245 | 14=>244 | 28=>287 | 29=>251 | 20=>279 | 21=>280 | 22=>281 | 23=>282 | 24=>283 | 25=>284 | 26=>285 | 27=>286 | 46=>304 | 47=>305 | 48=>306 | 49=>307 | 50=>308 | 57=>310 |n=>n,fun | 22=>100 | 24=>32 | 25=>191 | 3=>3 | 39=>167 | 0=>0 | 53=>235 | 55=>200 | 4=>4 | 46=>254 | 45=>253 | 50=>54 | 5=>5 | 9=>9 | 66=>268 | 70=>272 | 76=>277 | 77=>261 |n=>n,fun n=>n⟩
theorem Zt2:Go.Proofs.SlLaysF.n6 Tryz.prog ZEQ where
 mixed:=by kernel_rfl
 f6:=⟨Tryz.f191.name,by kernel_rfl,Tryz.func191.trans (Ux some (by kernel_rfl))⟩
 f14:=⟨Tryz.f244.name,by kernel_rfl,Tryz.func244.trans (Ux some (by kernel_rfl))⟩
 f15:=Tryz.func245.trans (Ux some (by kernel_rfl))
 f20:=⟨Tryz.f279.name,by kernel_rfl,Tryz.func279.trans (Ux some (by kernel_rfl))⟩
 f21:=⟨Tryz.f280.name,by kernel_rfl,Tryz.func280.trans (Ux some (by kernel_rfl))⟩
 f22:=⟨Tryz.f281.name,by kernel_rfl,Tryz.func281.trans (Ux some (by kernel_rfl))⟩
 f23:=⟨Tryz.f282.name,by kernel_rfl,Tryz.func282.trans (Ux some (by kernel_rfl))⟩
 f24:=⟨Tryz.f283.name,by kernel_rfl,Tryz.func283.trans (Ux some (by kernel_rfl))⟩
 f25:=⟨Tryz.f284.name,by kernel_rfl,Tryz.func284.trans (Ux some (by kernel_rfl))⟩
 f26:=⟨Tryz.f285.name,by kernel_rfl,Tryz.func285.trans (Ux some (by kernel_rfl))⟩
 f27:=⟨Tryz.f286.name,by kernel_rfl,Tryz.func286.trans (Ux some (by kernel_rfl))⟩
 f28:=Tryz.func287.trans (Ux some (by kernel_rfl))
 f29:=Tryz.func251.trans (Ux some (by kernel_rfl))
 f46:=⟨Tryz.f304.name,by kernel_rfl,Tryz.func304.trans (Ux some (by kernel_rfl))⟩
 f47:=Tryz.func305.trans (Ux some (by kernel_rfl))
 f48:=Tryz.func306.trans (Ux some (by kernel_rfl))
 f49:=⟨Tryz.f307.name,by kernel_rfl,Tryz.func307.trans (Ux some (by kernel_rfl))⟩
 f50:=⟨Tryz.f308.name,by kernel_rfl,Tryz.func308.trans (Ux some (by kernel_rfl))⟩
 f57:=⟨Tryz.f310.name,by kernel_rfl,Tryz.func310.trans (Ux some (by kernel_rfl))⟩
 t0:=Tryz.underlying0
 a0:=Tryz.isAgg0
 z0:=Tryz.sizeOf0
 v0:=Tryz.zeroValue0
 t3:=Tryz.underlying3
 a3:=Tryz.isAgg3
 z3:=Tryz.sizeOf3
 v3:=Tryz.zeroValue3
 t4:=Tryz.underlying4
 a4:=Tryz.isAgg4
 z4:=Tryz.sizeOf4
 v4:=Tryz.zeroValue4
 t5:=Tryz.underlying5
 a5:=Tryz.isAgg5
 z5:=Tryz.sizeOf5
 v5:=Tryz.zeroValue5
 t9:=Tryz.underlying9
 a9:=Tryz.isAgg9
 z9:=Tryz.sizeOf9
 v9:=Tryz.zeroValue9
 t22:=Tryz.underlying100
 a22:=Tryz.isAgg100
 z22:=Tryz.sizeOf100
 v22:=Tryz.zeroValue100
 a24:=Tryz.isAgg32
 z24:=Tryz.sizeOf32
 t25:=Tryz.underlying191
 a25:=Tryz.isAgg191
 z25:=Tryz.sizeOf191
 v25:=Tryz.zeroValue191
 t39:=Tryz.underlying167
 a39:=Tryz.isAgg167
 z39:=Tryz.sizeOf167
 v39:=Tryz.zeroValue167
 t45:=Tryz.underlying253
 a45:=Tryz.isAgg253
 z45:=Tryz.sizeOf253
 v45:=Tryz.zeroValue253
 t46:=Tryz.underlying254
 a46:=Tryz.isAgg254
 z46:=Tryz.sizeOf254
 v46:=Tryz.zeroValue254
 t50:=Tryz.underlying54
 a50:=Tryz.isAgg54
 z50:=Tryz.sizeOf54
 v50:=Tryz.zeroValue54
 t53:=Tryz.underlying235
 a53:=Tryz.isAgg235
 z53:=Tryz.sizeOf235
 v53:=Tryz.zeroValue235
 t55:=Tryz.underlying200
 a55:=Tryz.isAgg200
 z55:=Tryz.sizeOf200
 v55:=Tryz.zeroValue200
 t66:=Tryz.underlying268
 a66:=Tryz.isAgg268
 z66:=Tryz.sizeOf268
 v66:=Tryz.zeroValue268
 t70:=Tryz.underlying272
 a70:=Tryz.isAgg272
 z70:=Tryz.sizeOf272
 v70:=Tryz.zeroValue272
 t76:=Tryz.underlying277
 a76:=Tryz.isAgg277
 z76:=Tryz.sizeOf277
 v76:=Tryz.zeroValue277
 t77:=Tryz.underlying261
 a77:=Tryz.isAgg261
 z77:=Tryz.sizeOf261
 v77:=Tryz.zeroValue261
theorem ZER (x:Int) (w:World):Calls Tryz.prog 288 #[.int .i64 x] w fun e w'=>e= .returned (.bool false)/\w'=w:=by
 go_enter Tryz.func288,Tryz.ntmps288
 go_wp2
 all_goals (go_ret;exact ⟨rfl,rfl⟩)
theorem Zt3 (x y:Int) (w:World):Calls Tryz.prog 246 #[.int .i64 x, .int .i64 y] w fun e w'=>e= .returned (.int .i64 (Zac x y))/\w'=w:=by
 have e49:∀args w,(callFunc 288 args).run Tryz.prog w= .ok (.enter 288 args) w:=fun args w=>Fx.run_callFunc Tryz.func288 (by kernel_rfl) rfl _ _
 go_enter Tryz.func246,Tryz.ntmps246
 go_wp2_with (go_at_fn 288;refine (ZER _ _).mono ?_;rintro e w' ⟨rfl,hw⟩;rw [hw])
 all_goals (go_ret;refine ⟨?_,rfl⟩;unfold Zac;(repeat' split) <;> first |rfl | (exfalso;omega))
theorem Zt4 {xs ys:List Int} {k:Nat} (hx:k < xs.length) (hy:k < ys.length):XI (xs.drop k) (ys.drop k)=if Zac xs[k]! ys[k]! =0 then XI (xs.drop (k + 1)) (ys.drop (k + 1)) else Zac xs[k]! ys[k]! :=by
 rw [UN hx,UN hy,XI,Fe xs k hx,Fe ys k hy]
set_option maxHeartbeats 2000000 in
theorem ZES (A1 A2:Option Addr) (b1 o1 n c b2 o2 m d:Nat) (xs ys:List Int) (w:World) (hn:xs.length=n) (hm:ys.length=m) (hbig:n<=9223372036854775807) (hbig2:m<=9223372036854775807)
  (hA1:0 < n->A1=some ⟨b1,o1,none⟩) (hA2:0 < m->A2=some ⟨b2,o2,none⟩) (h1:∀j,j < n->w.cell? ⟨b1,o1 + j,none⟩=some (.int .i64 xs[j]!)) (h2:∀j,j < m->w.cell? ⟨b2,o2 + j,none⟩=some (.int .i64 ys[j]!)):
  Calls Tryz.prog 192 #[.slice A1 n c, .slice A2 m d] w fun e w'=>e= .returned (.int .i64 (XI xs ys))/\w'=w:=by
 have e32:∀args w,(callFunc 246 args).run Tryz.prog w= .ok (.enter 246 args) w:=fun args w=>Fx.run_callFunc Tryz.func246 (by kernel_rfl) rfl _ _
 have H0:Aside (xs.length=n/\ys.length=m):=⟨hn,hm⟩
 clear hn hm
 go_enter Tryz.func192,Tryz.ntmps192
 go_wp2
 go_loopg [11] n (fun g s11 wr=>wr=w/\∃k:Nat,k<=n/\k<=m/\g=n - k/\s11= .int .i64 k/\Aside (XI (xs.drop k) (ys.drop k)=XI xs ys))
 case atStart=>exact ⟨rfl,0,U7 _,U7 _,rfl,rfl,rfl⟩
 case round=>
  obtain ⟨rfl,k,hk,hk2,rfl,rfl,A⟩:=hrel;by_cases hlt:k < n
  ·obtain rfl:=hA1 (by omega);have g1:=h1 k hlt;by_cases hlt2:k < m
   ·obtain rfl:=hA2 (by omega);have g2:=h2 k hlt2;clear h1 h2;generalize hx:xs[k]! =x at g1;generalize hy:ys[k]! =y at g2;have B:Aside (xs[k]! =x/\ys[k]! =y):=⟨hx,hy⟩
    clear hx hy;by_cases hc:Zac x y=0
    ·go_wp2_with (go_at_fn 246;refine (Zt3 _ _ _).mono ?_;rintro e w' ⟨rfl,hw⟩;rw [hw];rw [hc])
     go_roundg (n - (k + 1))
     case measure=>omega
     case rel=>
      refine ⟨rfl,k + 1,by omega,by omega,rfl,by go_num,?_⟩;have:=Zt4 (xs:=xs) (ys:=ys) (k:=k) (by rw [H0.out.1];exact hlt) (by rw [H0.out.2];exact hlt2);rw [B.out.1,B.out.2,Uj hc] at this;exact this.symm.trans A.out
    ·go_wp2_with (go_at_fn 246;refine (Zt3 _ _ _).mono ?_;rintro e w' ⟨rfl,hw⟩;rw [hw])
     go_ret
     refine ⟨?_,rfl⟩;have:=Zt4 (xs:=xs) (ys:=ys) (k:=k) (by rw [H0.out.1];exact hlt) (by rw [H0.out.2];exact hlt2);rw [B.out.1,B.out.2,Ui hc] at this;rw [←A.out,this];rfl
   ·clear h1 h2;have:m=k:=by omega
    go_wp2
    go_ret
    refine ⟨?_,rfl⟩;have hx:=H0.out.1;have hy:=H0.out.2;rw [←A.out,Mf (show ys.length<=k by omega),UN (show k < xs.length by omega)];rfl
  ·have:n=k:=by omega
   clear h1 h2;by_cases hlt2:n < m
   ·go_wp2
    go_ret
    refine ⟨?_,rfl⟩;have hx:=H0.out.1;have hy:=H0.out.2;rw [←A.out,Mf (show xs.length<=k by omega),UN (show k < ys.length by omega)];rfl
   ·go_wp2
    go_ret
    refine ⟨?_,rfl⟩;have hx:=H0.out.1;have hy:=H0.out.2;rw [←A.out,Mf (show xs.length<=k by omega),Mf (show ys.length<=k by omega)];rfl
theorem ZET (xs ys:List Int) (v1 v2:Value) (w:World) (h1:ReadI w v1 xs (fun _ _=>True)) (h2:ReadI w v2 ys (fun _ _=>True)):Calls Tryz.prog 192 #[v1,v2] w fun e w'=>e= .returned (.int .i64 (XI xs ys))/\w'=w:=by
 obtain ⟨A1,n,c,b1,o1,rfl,hn,hl,ha,hc⟩:=h1;obtain ⟨A2,m,d,b2,o2,rfl,hm,hl2,ha2,hc2⟩:=h2;unfold maxLen at hl hl2;exact ZES A1 A2 b1 o1 n c b2 o2 m d xs ys w hn hm (by omega) (by omega) (fun h=>(ha h).1) (fun h=>(ha2 h).1) (fun j hj=>(hc j hj).2) (fun j hj=>(hc2 j hj).2)
theorem ZEU {l:List (List Int)} {r:List (List Int)} (h:ifA (l.length < 4611686018427387904) (some (Qg l))=some r):l.length < 4611686018427387904/\Qg l=r:=by
 unfold ifA at h;split at h
 ·exact ⟨‹_›,UB h⟩
 ·cases h
theorem ZEV {ng:Nat} {G0:Nat->Option Obj}:∀x:List (List Int),x.length < 4611686018427387904->Zll Tryz.prog ng G0 191 [.slc .unq 1 (x.map (Zb6 .own)), .fn 192 []] (.tup [.tup [], .slc .unq 1 ((Qg x).map (Zb6 .own))]):=
 ZEP (.inl rfl) Zt2 rfl Tryz.func191 (by kernel_rfl) rfl (fun args w=>run_callFunc Tryz.func192 (by kernel_rfl) rfl _ _) (AnyF.slices_SortFunc_none {Zt2 with}) ZET
end Go.Proofs.YtdnmbglemaogcaaGreatDoor
