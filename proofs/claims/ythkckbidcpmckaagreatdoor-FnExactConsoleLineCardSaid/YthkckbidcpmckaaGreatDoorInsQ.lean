/- Part of the proof: see the last text of the claim. -/
import Derived.Test.YthkckbidcpmckaaGreatDoorFzZI
import Derived.Test.YthkckbidcpmckaaGreatDoorProg
import Derived.KernelRfl
set_option linter.all false
namespace Go.Proofs.YthkckbidcpmckaaGreatDoor
open Go.Shelf Go.RowKit Go.Lib Go.Proofs Go.Fx
theorem ZpV:Tryz.prog.underlying 0=some (.tuple #[]):=by kernel_rfl
theorem ZpW:Tryz.prog.underlying 3=some (.int .i64):=by kernel_rfl
theorem ZpX:Tryz.prog.underlying 4=some .bool:=by kernel_rfl
theorem ZpY:Tryz.prog.underlying 23=some (.slice 3):=by kernel_rfl
theorem Zwn:(Tryz.prog.info? 3).map (fun i=>(i.zero.map (·.cells.size),i.size,i.bytes))=some (some 1,1,8):=by kernel_rfl
theorem ZpZ:(Tryz.prog.info? 3).map (·.size)=some 1:=by kernel_rfl
theorem Zp0:Tryz.f301.ntmps=95:=by kernel_rfl
theorem Zp1:Tryz.prog.follows .mixedOrders=true:=by kernel_rfl
set_option maxHeartbeats 4000000 in
set_option maxRecDepth 100000 in
theorem ZIG {w:World} {b n c i vb vc:Nat} {cur curv:Array Value} {e ev:TypeId} (hb:w.heap[b]? =some (.cells cur e (0,0))) (hv:w.heap[vb]? =some (.cells curv ev (0,0))) (hne:vb≠b) (hi:i < n) (hroom:n + 1<=c)
  (hc:cur.size=c) (hc63:c<=9223372036854775807) (hcv:1<=curv.size) (h1:∀v∈cur.toList.take (n),v.oneCell'=true) (h1v:∀v∈curv.toList.take 1,v.oneCell'=true):
  Calls Tryz.prog 301 #[.slice (some ⟨b,0,none⟩) n c, .int .i64 i, .slice (some ⟨vb,0,none⟩) 1 vc] w fun x w'=>x= .returned (.slice (some ⟨b,0,none⟩) (n + 1) c)/\
   ∃c1 c2:List Value,c1=cur.toList.take (i + 1) ++ (cur.toList.take (n)).drop (i) ++ cur.toList.drop ((n + 1))/\c2=c1.take (i) ++ curv.toList.take 1 ++ c1.drop (i + 1)/\w'=(w.drew.setRow b c1.toArray).setRow b c2.toArray:=by
 have t0:=ZpV;have t3:=ZpW;have t4:=ZpX;have tT:=ZpY;have sT:=ZpZ;have iT:=Zwn;have ntm:=Zp0;have a3:∀w,(isAgg 3).run Tryz.prog w= .ok false w:=fun w=>by simp [isAgg,run_underlying t3]
 have a4:∀w,(isAgg 4).run Tryz.prog w= .ok false w:=fun w=>by simp [isAgg,run_underlying t4]
 have aT:∀w,(isAgg 23).run Tryz.prog w= .ok false w:=fun w=>by simp [isAgg,run_underlying tT]
 have u0:=run_underlying t0;have u3:=run_underlying t3;have u4:=run_underlying t4;have uT:=run_underlying tT;have mixed:=Zp1;have zE:∀w,(Go.sizeOf 3).run Tryz.prog w= .ok 1 w:=fun w=>by
  obtain ⟨j,hj,hs⟩:=ME.1 sT;simp [Go.sizeOf,typeInfo,hj,hs]
 have hz2:¬((i:Int)=(n:Int)):=by omega
 have hw1:IntKind.i64.wrap ((i:Int) + 1)=(i:Int) + 1:=by rw [IntKind.wrap_i64];omega
 have hb1:(0:Int)<=(i:Int) + 1:=by omega
 have hin:i<=n:=by omega
 have htn:((i:Int) + 1).toNat=i + 1:=by omega
 have hb2:¬(c=i + 1):=by omega
 have hb3:(i:Int)<=(n:Int) + 1:=by omega
 have hb4:¬(c=i):=by omega
 have hov:∀lb cb,(callFunc 336 #[.slice (some ⟨vb,0,none⟩) 1 vc, .slice (some ⟨b,i + 1,none⟩) lb cb]).run Tryz.prog w= .ok (.value (.bool false)) w:=fun lb cb=>by
  rw [run_callFunc_extern Tryz.func336 (by kernel_rfl) (by kernel_rfl) (by kernel_rfl) (e:=Extern.SlicesOverlaps.overlaps #[23,23] #[4]) (by kernel_rfl),
   Lib.run_overlaps_apart w 23 4 3 tT 1 zE ⟨vb,0,none⟩ ⟨b,i + 1,none⟩ 1 vc lb cb hne ev e curv.size cur.size (by simp [World.shape?,hv]) (by simp [World.shape?,hb]) (by omega) (by simp [World.frozen?,hv]) (by simp [World.frozen?,hv])]
  rfl
 obtain ⟨c1,hc1⟩:∃c1:List Value,c1=cur.toList.take (i + 1) ++ (cur.toList.take (n)).drop (i) ++ cur.toList.drop ((n + 1)):=⟨_,rfl⟩
 obtain ⟨c2,hc2⟩:∃c2:List Value,c2=c1.take (i) ++ curv.toList.take 1 ++ c1.drop (i + 1):=⟨_,rfl⟩
 have hl1:c1.length=c:=by
  rw [hc1];simp only [Uh,Uc,Uu,Ue,hc];omega
 have hcp1:∀ty dc sc,(Builtin.copy_ #[23,23] ty #[.slice (some ⟨b,i + 1,none⟩) (n - i) dc, .slice (some ⟨b,i,none⟩) (n + 1 - i) sc]).run Tryz.prog w.drew= .ok (goInt ((n - i:Nat):Int)) (w.drew.setRow b c1.toArray):=fun ty dc sc=>by
  have hm:Nat.min (n + 1 - i) (n - i)=n - i:=by simp only [Fl];split <;> omega
  have:=Zaw (P:=Tryz.prog) w.drew 23 23 ty 3 b (i + 1) (n - i) dc ⟨b,i,none⟩ (n + 1 - i) sc 1 cur e ((cur.toList.take (n)).drop (i)) tT sT hb
   (by rw [hm];simp only [Uc,Uu,Ue,hc];omega)
   (fun j v hj=>by
    rw [Addr.add_lit];show w.cell? _=_;rw [JL hb];rw [US,UA] at hj;split at hj
    ·simpa using hj
    ·cases hj)
   (by simp only [Uc,Uu,Ue,hc];omega)
   (fun v hv=>h1 v (Mx hv))
  have hlen:((cur.toList.take (n)).drop (i)).length=(n - i):=by simp only [Uc,Uu,Ue,hc];omega
  rw [hm,hlen,show i + 1 + (n - i)=(n + 1) by omega,←hc1] at this;exact this
 have hcp2:∀ty dc,(Builtin.copy_ #[23,23] ty #[.slice (some ⟨b,i,none⟩) (n + 1 - i) dc, .slice (some ⟨vb,0,none⟩) 1 vc]).run Tryz.prog (w.drew.setRow b c1.toArray)= .ok (goInt 1) ((w.drew.setRow b c1.toArray).setRow b c2.toArray):=fun ty dc=>by
  have hm:Nat.min 1 (n + 1 - i)=1:=by simp only [Fl];split <;> omega
  have:=Zaw (P:=Tryz.prog) (w.drew.setRow b c1.toArray) 23 23 ty 3 b (i) (n + 1 - i) dc ⟨vb,0,none⟩ 1 vc 1 c1.toArray e (curv.toList.take 1) tT sT (setRow_heap w.drew b cur _ e _ hb)
   (by rw [hm];simp only [Uc,Ue];omega)
   (fun j v hj=>by
    rw [Addr.add_lit];have e1:(w.drew.setRow b c1.toArray).heap[vb]? =some (.cells curv ev (0,0)):=(setRow_other w.drew b vb _ hne).trans hv;rw [JL e1];rw [UA] at hj;split at hj
    ·simpa using hj
    ·cases hj)
   (by simp only [Uc,Ue,UR,hl1];omega)
   h1v
  have hlen:(curv.toList.take 1).length=1:=by simp only [Uc,Ue];omega
  rw [hm,hlen,show i + 1=i + 1 by omega] at this;rw [this,hc2];rfl
 have Vq:Calls Tryz.prog 301 #[.slice (some ⟨b,0,none⟩) n c, .int .i64 i, .slice (some ⟨vb,0,none⟩) 1 vc] w fun x w'=>x= .returned (.slice (some ⟨b,0,none⟩) (n + 1) c)/\w'=(w.drew.setRow b c1.toArray).setRow b c2.toArray:=by
  clear hc1 hc2 hl1;generalize c1.toArray=R1 at hcp1 hcp2 ⊢;generalize c2.toArray=R2 at hcp2 ⊢
  go_enter Tryz.func301,ntm
  go_wp2_with (simp only [hov])
  go_region_law_o (refine step_copy_runI rfl _ _ 23 23 rfl _ _ (by simp [Act.eval,Act.put]) (by simp [Act.eval,Act.put]) (hcp1 _ _ _) ?_)
  go_wp2_with (at_builtin;refine wpList_copy_runI _ rfl _ _ 23 23 rfl _ _ rfl rfl (hcp2 _ _) ?_)
  go_ret
  exact ⟨rfl,rfl⟩
 exact Vq.mono fun x w' h=>⟨h.1,c1,c2,hc1,hc2,h.2⟩
set_option maxHeartbeats 4000000 in
set_option maxRecDepth 100000 in
theorem ZIH {w:World} {b n c i vb vc:Nat} {cur curv:Array Value} {e ev:TypeId} (hb:w.heap[b]? =some (.cells cur e (0,0))) (hv:w.heap[vb]? =some (.cells curv ev (0,0))) (hi:i < n) (hnc:n<=c) (hroom:c < n + 1)
  (hc:cur.size=c) (hbig:(n + 1) * 8<=140737488355328) (hcv:1<=curv.size) (h1:∀v∈cur.toList.take (n),v.oneCell'=true) (h1v:∀v∈curv.toList.take 1,v.oneCell'=true):
  Calls Tryz.prog 301 #[.slice (some ⟨b,0,none⟩) n c, .int .i64 i, .slice (some ⟨vb,0,none⟩) 1 vc] w fun x w'=>
   ∃(G:Nat) (R:List Value) (R1 R2:Array Value),n + 1<=G/\G<=maxLen/\R.length=G/\R1=(R.take (i) ++ curv.toList.take 1 ++ R.drop (i + 1)).toArray/\R2=(R1.toList.take (i + 1) ++ (cur.toList.take (n)).drop (i) ++ R1.toList.drop ((n + 1))).toArray/\R.take (i)=cur.toList.take (i)/\
   x= .returned (.slice (some ⟨w.heap.size,0,none⟩) (n + 1) G)/\w'=(((w.alloc (.cells R.toArray 3)).drew.setRow w.heap.size R1).drew).setRow w.heap.size R2:=by
 have t0:=ZpV;have t3:=ZpW;have t4:=ZpX;have tT:=ZpY;have sT:=ZpZ;have iT:=Zwn;have ntm:=Zp0;have a3:∀w,(isAgg 3).run Tryz.prog w= .ok false w:=fun w=>by simp [isAgg,run_underlying t3]
 have a4:∀w,(isAgg 4).run Tryz.prog w= .ok false w:=fun w=>by simp [isAgg,run_underlying t4]
 have aT:∀w,(isAgg 23).run Tryz.prog w= .ok false w:=fun w=>by simp [isAgg,run_underlying tT]
 have u0:=run_underlying t0;have u3:=run_underlying t3;have u4:=run_underlying t4;have uT:=run_underlying tT;have mixed:=Zp1;obtain ⟨j0,hj0,hjz⟩:=ME.1 iT;simp only [Prod.mk.injEq,ME] at hjz;obtain ⟨⟨z0,hz0,hzc⟩,hzs,hzb⟩:=hjz;have hz2:¬((i:Int)=(n:Int)):=by omega
 have hz3:(c:Int) < (n:Int) + 1:=by omega
 have hin:i<=n:=by omega
 have hm63:n + 1<=maxLen:=by unfold maxLen;omega
 have hw1:IntKind.i64.wrap ((i:Int) + 1)=(i:Int) + 1:=by rw [IntKind.wrap_i64];omega
 have hb1:(0:Int)<=(i:Int) + 1:=by omega
 have htn:((i:Int) + 1).toNat=i + 1:=by omega
 have hbw:b < w.heap.size:=(Array.getElem?_eq_some_iff.1 hb).1;have hvw:vb < w.heap.size:=(Array.getElem?_eq_some_iff.1 hv).1;have hkk:(n:Int) + 1 - (i:Int)=((n + 1 - i:Nat):Int):=by omega
 have hik:i + (n + 1 - i)=n + 1:=by omega
 have hold:(Builtin.firstCells j0.size i (.slice (some ⟨b,0,none⟩) i c)).run Tryz.prog w.drew= .ok (cur.toList.take (i)).toArray w.drew:=by
  rw [hzs];exact run_firstCells_some w.drew 1 i ⟨b,0,none⟩ i c (cur.toList.take (i)) (by simp only [Uc,Ue,hc];omega) (fun j v hj=>by
   rw [Addr.add_lit];show w.cell? _=_;rw [JL hb];rw [UA] at hj;split at hj
   ·simpa using hj
   ·cases hj)
 have hrz:∀ty,(Builtin.append_ #[23,3] ty #[.slice (some ⟨b,0,none⟩) i c, .int .i64 ((n:Int) + 1 - (i:Int))]).run Tryz.prog w= .ok (.slice (some ⟨w.heap.size,0,none⟩) (n + 1) (grownCap w (n + 1) c 3)) (w.drew.alloc (.cells ((cur.toList.take (i)).toArray ++ Builtin.zeroCells z0.cells (n + 1 - i) ++ Builtin.zeroCells z0.cells (grownCap w (n + 1) c 3 - (n + 1))) 3)):=fun ty=>by
  have h:=Lib.run_append_grow_zeros w 23 3 ty 3 j0 z0 .i64 .i64 tT t3 hj0 hz0 (some ⟨b,0,none⟩) i c (cur.toList.take (i)) hold (n + 1 - i) (by omega) (by omega) (by omega) (by omega) (by rw [hzb];omega) (by rw [hzb,hik];exact growslice_fits hroom hbig);rw [hik] at h;rw [hkk];exact h
 have hGn:n + 1<=grownCap w (n + 1) c 3:=grownCap_ge w _ _ _;have hG63:grownCap w (n + 1) c 3<=maxLen:=grownCap_le_maxLen w (n + 1) c 3 hm63;generalize grownCap w (n + 1) c 3=G at hrz hGn hG63;obtain ⟨R,hR⟩:∃R:List Value,R.toArray=(cur.toList.take (i)).toArray ++ Builtin.zeroCells z0.cells (n + 1 - i) ++ Builtin.zeroCells z0.cells (G - (n + 1)):=⟨((cur.toList.take (i)).toArray ++ Builtin.zeroCells z0.cells (n + 1 - i) ++ Builtin.zeroCells z0.cells (G - (n + 1))).toList,by simp⟩
 rw [←hR] at hrz;have hRl:R.length=G:=by
  have:=UC Array.size hR;simp only [UR,M0,size_zeroCells,hzc,Uc,Ue,hc] at this;rw [this];omega
 have hRt:R.take (i)=cur.toList.take (i):=by
  have:=UC Array.toList hR;simp only [M5,Uw] at this;rw [this];exact Fv (by simp only [Uc,Ue,hc];omega)
 obtain ⟨R1,hR1⟩:∃R1:Array Value,R1=(R.take (i) ++ curv.toList.take 1 ++ R.drop (i + 1)).toArray:=⟨_,rfl⟩
 obtain ⟨R2,hR2⟩:∃R2:Array Value,R2=(R1.toList.take (i + 1) ++ (cur.toList.take (n)).drop (i) ++ R1.toList.drop ((n + 1))).toArray:=⟨_,rfl⟩
 have hl1:R1.size=G:=by
  rw [hR1];simp only [UR,Uh,Uc,Uu,Ue,hRl];omega
 have hcpA:∀(W:World),W.heap=(w.alloc (.cells R.toArray 3)).heap->∀ty dc,(Builtin.copy_ #[23,23] ty #[.slice (some ⟨w.heap.size,i,none⟩) (n + 1 - i) dc, .slice (some ⟨vb,0,none⟩) 1 vc]).run Tryz.prog W= .ok (goInt 1) (W.setRow w.heap.size R1):=fun W hW ty dc=>by
  have hm:Nat.min 1 (n + 1 - i)=1:=by simp only [Fl];split <;> omega
  have hN:W.heap[w.heap.size]? =some (.cells R.toArray 3 (0,0)):=by rw [hW];exact heap_alloc_new w _
  have hV:W.heap[vb]? =some (.cells curv ev (0,0)):=by rw [hW,heap_alloc_old w _ hvw];exact hv
  have:=Zaw (P:=Tryz.prog) W 23 23 ty 3 w.heap.size (i) (n + 1 - i) dc ⟨vb,0,none⟩ 1 vc 1 R.toArray 3 (curv.toList.take 1) tT sT hN
   (by rw [hm];simp only [Uc,Ue];omega)
   (fun j v hj=>by
    rw [Addr.add_lit];rw [JL hV];rw [UA] at hj;split at hj
    ·simpa using hj
    ·cases hj)
   (by simp only [Uc,Ue,UR,hRl];omega)
   h1v
  have hlen:(curv.toList.take 1).length=1:=by simp only [Uc,Ue];omega
  rw [hm,hlen,show i + 1=i + 1 by omega] at this;rw [this,hR1];rfl
 have hcpB:∀(W:World),W.heap=((w.alloc (.cells R.toArray 3)).setRow w.heap.size R1).heap->∀ty dc sc,(Builtin.copy_ #[23,23] ty #[.slice (some ⟨w.heap.size,i + 1,none⟩) (n - i) dc, .slice (some ⟨b,i,none⟩) (n - i) sc]).run Tryz.prog W= .ok (goInt ((n - i:Nat):Int)) (W.setRow w.heap.size R2):=fun W hW ty dc sc=>by
  have hm:Nat.min (n - i) (n - i)=n - i:=by simp only [Fl];split <;> omega
  have hN:W.heap[w.heap.size]? =some (.cells R1 3 (0,0)):=by rw [hW];exact setRow_heap _ _ R.toArray _ 3 _ (heap_alloc_new w _)
  have hV:W.heap[b]? =some (.cells cur e (0,0)):=by rw [hW,setRow_other _ _ b _ (by omega),heap_alloc_old w _ hbw];exact hb
  have:=Zaw (P:=Tryz.prog) W 23 23 ty 3 w.heap.size (i + 1) (n - i) dc ⟨b,i,none⟩ (n - i) sc 1 R1 3 ((cur.toList.take (n)).drop (i)) tT sT hN
   (by rw [hm];simp only [Uc,Uu,Ue,hc];omega)
   (fun j v hj=>by
    rw [Addr.add_lit];rw [JL hV];rw [US,UA] at hj;split at hj
    ·simpa using hj
    ·cases hj)
   (by simp only [Uc,Uu,Ue,hc,hl1];omega)
   (fun v hv=>h1 v (Mx hv))
  have hlen:((cur.toList.take (n)).drop (i)).length=(n - i):=by simp only [Uc,Uu,Ue,hc];omega
  rw [hm,hlen,show i + 1 + (n - i)=(n + 1) by omega] at this;rw [this,hR2]
 have Vq:Calls Tryz.prog 301 #[.slice (some ⟨b,0,none⟩) n c, .int .i64 i, .slice (some ⟨vb,0,none⟩) 1 vc] w fun x w'=>x= .returned (.slice (some ⟨w.heap.size,0,none⟩) (n + 1) G)/\w'=(((w.alloc (.cells R.toArray 3)).drew.setRow w.heap.size R1).drew).setRow w.heap.size R2:=by
  clear hkk hik hold hR hRl hRt hR1 hR2 hl1;generalize hRA:R.toArray=RA at hrz hcpA hcpB ⊢;have hGi:¬(G=i):=by omega
  have hGim:¬(G=i + 1):=by omega
  have hci:¬(c=i):=by omega
  have hG63':G<=9223372036854775807:=by unfold maxLen at hG63;omega
  go_enter Tryz.func301,ntm
  go_wp2_with (at_builtin;refine Lib.wpList_append_run _ rfl _ _ _ _ rfl _ _ rfl rfl _ _ (hrz _) ?_)
  rw [hcpA ((w.alloc (.cells RA 3)).drew) rfl 3 (G - i)]
  go_wp2
  go_region_law_o (refine step_copy_runI rfl _ _ 23 23 rfl (.slice (some ⟨w.heap.size,i + 1,none⟩) (n - i) (G - (i + 1))) (.slice (some ⟨b,i,none⟩) (n - i) (c - i)) (by simp [Act.eval,Act.put]) (by simp [Act.eval,Act.put]) (hcpB ((((w.alloc (.cells RA 3)).drew).setRow w.heap.size R1).drew) rfl 3 (G - (i + 1)) (c - i)) ?_)
  go_wp2
  go_ret
  exact ⟨rfl,rfl⟩
 exact Vq.mono fun x w' h=>⟨G,R,R1,R2,hGn,hG63,hRl,hR1,hR2,hRt,h.1,h.2⟩
set_option maxHeartbeats 4000000 in
set_option maxRecDepth 100000 in
theorem ZII {w w':World} {A:Option Addr} {n c vb vc:Nat} {q:Value} (happ:∀ty,(Builtin.append_ #[23,23] ty #[.slice A n c, .slice (some ⟨vb,0,none⟩) 1 vc]).run Tryz.prog w= .ok q w') (hnc:n<=c) (hc63:c<=9223372036854775807):
  Calls Tryz.prog 301 #[.slice A n c, .int .i64 n, .slice (some ⟨vb,0,none⟩) 1 vc] w fun x w2=>x= .returned q/\w2=w':=by
 have t0:=ZpV;have t3:=ZpW;have t4:=ZpX;have tT:=ZpY;have sT:=ZpZ;have ntm:=Zp0;have a3:∀w,(isAgg 3).run Tryz.prog w= .ok false w:=fun w=>by simp [isAgg,run_underlying t3]
 have a4:∀w,(isAgg 4).run Tryz.prog w= .ok false w:=fun w=>by simp [isAgg,run_underlying t4]
 have aT:∀w,(isAgg 23).run Tryz.prog w= .ok false w:=fun w=>by simp [isAgg,run_underlying tT]
 have u0:=run_underlying t0;have u3:=run_underlying t3;have u4:=run_underlying t4;have uT:=run_underlying tT;have mixed:=Zp1
 go_enter Tryz.func301,ntm
 cases A with
 |none=>
  go_wp2_with (at_builtin;refine Lib.wpList_append_run _ rfl _ _ _ _ rfl _ _ rfl rfl _ _ (happ _) ?_)
  all_goals (go_ret;exact ⟨rfl,rfl⟩)
 |some a=>
  obtain ⟨ab,ao,asp⟩:=a
  go_wp2_with (at_builtin;refine Lib.wpList_append_run _ rfl _ _ _ _ rfl _ _ rfl rfl _ _ (happ _) ?_)
  all_goals (go_ret;exact ⟨rfl,rfl⟩)
theorem ZIJ:InsW Tryz.prog 301 23 3 1 8:=by
 refine ⟨?_,?_,ZII⟩
 ·intro w b n c i vb vc cur curv e1 ev;have a:= @ZIG w b n c i vb vc cur curv e1 ev;simpa only [Nat.mul_one] using a
 ·intro w b n c i vb vc cur curv e1 ev;have a:= @ZIH w b n c i vb vc cur curv e1 ev;simpa only [Nat.mul_one] using a
theorem Zp2:Tryz.prog.underlying 0=some (.tuple #[]):=by kernel_rfl
theorem Zp3:Tryz.prog.underlying 3=some (.int .i64):=by kernel_rfl
theorem Zp4:Tryz.prog.underlying 4=some .bool:=by kernel_rfl
theorem Zp5:Tryz.prog.underlying 36=some (.slice 119):=by kernel_rfl
theorem Zwo:(Tryz.prog.info? 119).map (fun i=>(i.zero.map (·.cells.size),i.size,i.bytes))=some (some 2,2,16):=by kernel_rfl
theorem Zp6:(Tryz.prog.info? 119).map (·.size)=some 2:=by kernel_rfl
theorem Zp7:Tryz.f256.ntmps=95:=by kernel_rfl
theorem Zp8:Tryz.prog.follows .mixedOrders=true:=by kernel_rfl
set_option maxHeartbeats 4000000 in
set_option maxRecDepth 100000 in
theorem ZIK {w:World} {b n c i vb vc:Nat} {cur curv:Array Value} {e ev:TypeId} (hb:w.heap[b]? =some (.cells cur e (0,0))) (hv:w.heap[vb]? =some (.cells curv ev (0,0))) (hne:vb≠b) (hi:i < n) (hroom:n + 1<=c)
  (hc:cur.size=c * 2) (hc63:c<=9223372036854775807) (hcv:2<=curv.size) (h1:∀v∈cur.toList.take (n * 2),v.oneCell'=true) (h1v:∀v∈curv.toList.take 2,v.oneCell'=true):
  Calls Tryz.prog 256 #[.slice (some ⟨b,0,none⟩) n c, .int .i64 i, .slice (some ⟨vb,0,none⟩) 1 vc] w fun x w'=>x= .returned (.slice (some ⟨b,0,none⟩) (n + 1) c)/\
   ∃c1 c2:List Value,c1=cur.toList.take ((i + 1) * 2) ++ (cur.toList.take (n * 2)).drop (i * 2) ++ cur.toList.drop ((n + 1) * 2)/\c2=c1.take (i * 2) ++ curv.toList.take 2 ++ c1.drop ((i + 1) * 2)/\w'=(w.drew.setRow b c1.toArray).setRow b c2.toArray:=by
 have t0:=Zp2;have t3:=Zp3;have t4:=Zp4;have tT:=Zp5;have sT:=Zp6;have iT:=Zwo;have ntm:=Zp7;have a3:∀w,(isAgg 3).run Tryz.prog w= .ok false w:=fun w=>by simp [isAgg,run_underlying t3]
 have a4:∀w,(isAgg 4).run Tryz.prog w= .ok false w:=fun w=>by simp [isAgg,run_underlying t4]
 have aT:∀w,(isAgg 36).run Tryz.prog w= .ok false w:=fun w=>by simp [isAgg,run_underlying tT]
 have u0:=run_underlying t0;have u3:=run_underlying t3;have u4:=run_underlying t4;have uT:=run_underlying tT;have mixed:=Zp8;have zE:∀w,(Go.sizeOf 119).run Tryz.prog w= .ok 2 w:=fun w=>by
  obtain ⟨j,hj,hs⟩:=ME.1 sT;simp [Go.sizeOf,typeInfo,hj,hs]
 have hz2:¬((i:Int)=(n:Int)):=by omega
 have hw1:IntKind.i64.wrap ((i:Int) + 1)=(i:Int) + 1:=by rw [IntKind.wrap_i64];omega
 have hb1:(0:Int)<=(i:Int) + 1:=by omega
 have hin:i<=n:=by omega
 have htn:((i:Int) + 1).toNat=i + 1:=by omega
 have hb2:¬(c=i + 1):=by omega
 have hb3:(i:Int)<=(n:Int) + 1:=by omega
 have hb4:¬(c=i):=by omega
 have hov:∀lb cb,(callFunc 306 #[.slice (some ⟨vb,0,none⟩) 1 vc, .slice (some ⟨b,(i + 1) * 2,none⟩) lb cb]).run Tryz.prog w= .ok (.value (.bool false)) w:=fun lb cb=>by
  rw [run_callFunc_extern Tryz.func306 (by kernel_rfl) (by kernel_rfl) (by kernel_rfl) (e:=Extern.SlicesOverlaps.overlaps #[36,36] #[4]) (by kernel_rfl),
   Lib.run_overlaps_apart w 36 4 119 tT 2 zE ⟨vb,0,none⟩ ⟨b,(i + 1) * 2,none⟩ 1 vc lb cb hne ev e curv.size cur.size (by simp [World.shape?,hv]) (by simp [World.shape?,hb]) (by omega) (by simp [World.frozen?,hv]) (by simp [World.frozen?,hv])]
  rfl
 obtain ⟨c1,hc1⟩:∃c1:List Value,c1=cur.toList.take ((i + 1) * 2) ++ (cur.toList.take (n * 2)).drop (i * 2) ++ cur.toList.drop ((n + 1) * 2):=⟨_,rfl⟩
 obtain ⟨c2,hc2⟩:∃c2:List Value,c2=c1.take (i * 2) ++ curv.toList.take 2 ++ c1.drop ((i + 1) * 2):=⟨_,rfl⟩
 have hl1:c1.length=c * 2:=by
  rw [hc1];simp only [Uh,Uc,Uu,Ue,hc];omega
 have hcp1:∀ty dc sc,(Builtin.copy_ #[36,36] ty #[.slice (some ⟨b,(i + 1) * 2,none⟩) (n - i) dc, .slice (some ⟨b,i * 2,none⟩) (n + 1 - i) sc]).run Tryz.prog w.drew= .ok (goInt ((n - i:Nat):Int)) (w.drew.setRow b c1.toArray):=fun ty dc sc=>by
  have hm:Nat.min (n + 1 - i) (n - i)=n - i:=by simp only [Fl];split <;> omega
  have:=Zaw (P:=Tryz.prog) w.drew 36 36 ty 119 b ((i + 1) * 2) (n - i) dc ⟨b,i * 2,none⟩ (n + 1 - i) sc 2 cur e ((cur.toList.take (n * 2)).drop (i * 2)) tT sT hb
   (by rw [hm];simp only [Uc,Uu,Ue,hc];omega)
   (fun j v hj=>by
    rw [Addr.add_lit];show w.cell? _=_;rw [JL hb];rw [US,UA] at hj;split at hj
    ·simpa using hj
    ·cases hj)
   (by simp only [Uc,Uu,Ue,hc];omega)
   (fun v hv=>h1 v (Mx hv))
  have hlen:((cur.toList.take (n * 2)).drop (i * 2)).length=(n - i) * 2:=by simp only [Uc,Uu,Ue,hc];omega
  rw [hm,hlen,show (i + 1) * 2 + (n - i) * 2=(n + 1) * 2 by omega,←hc1] at this;exact this
 have hcp2:∀ty dc,(Builtin.copy_ #[36,36] ty #[.slice (some ⟨b,i * 2,none⟩) (n + 1 - i) dc, .slice (some ⟨vb,0,none⟩) 1 vc]).run Tryz.prog (w.drew.setRow b c1.toArray)= .ok (goInt 1) ((w.drew.setRow b c1.toArray).setRow b c2.toArray):=fun ty dc=>by
  have hm:Nat.min 1 (n + 1 - i)=1:=by simp only [Fl];split <;> omega
  have:=Zaw (P:=Tryz.prog) (w.drew.setRow b c1.toArray) 36 36 ty 119 b (i * 2) (n + 1 - i) dc ⟨vb,0,none⟩ 1 vc 2 c1.toArray e (curv.toList.take 2) tT sT (setRow_heap w.drew b cur _ e _ hb)
   (by rw [hm];simp only [Uc,Ue];omega)
   (fun j v hj=>by
    rw [Addr.add_lit];have e1:(w.drew.setRow b c1.toArray).heap[vb]? =some (.cells curv ev (0,0)):=(setRow_other w.drew b vb _ hne).trans hv;rw [JL e1];rw [UA] at hj;split at hj
    ·simpa using hj
    ·cases hj)
   (by simp only [Uc,Ue,UR,hl1];omega)
   h1v
  have hlen:(curv.toList.take 2).length=2:=by simp only [Uc,Ue];omega
  rw [hm,hlen,show i * 2 + 2=(i + 1) * 2 by omega] at this;rw [this,hc2];rfl
 have Vq:Calls Tryz.prog 256 #[.slice (some ⟨b,0,none⟩) n c, .int .i64 i, .slice (some ⟨vb,0,none⟩) 1 vc] w fun x w'=>x= .returned (.slice (some ⟨b,0,none⟩) (n + 1) c)/\w'=(w.drew.setRow b c1.toArray).setRow b c2.toArray:=by
  clear hc1 hc2 hl1;generalize c1.toArray=R1 at hcp1 hcp2 ⊢;generalize c2.toArray=R2 at hcp2 ⊢
  go_enter Tryz.func256,ntm
  go_wp2_with (simp only [hov])
  go_region_law_o (refine step_copy_runI rfl _ _ 36 36 rfl _ _ (by simp [Act.eval,Act.put]) (by simp [Act.eval,Act.put]) (hcp1 _ _ _) ?_)
  go_wp2_with (at_builtin;refine wpList_copy_runI _ rfl _ _ 36 36 rfl _ _ rfl rfl (hcp2 _ _) ?_)
  go_ret
  exact ⟨rfl,rfl⟩
 exact Vq.mono fun x w' h=>⟨h.1,c1,c2,hc1,hc2,h.2⟩
set_option maxHeartbeats 4000000 in
set_option maxRecDepth 100000 in
theorem ZIL {w:World} {b n c i vb vc:Nat} {cur curv:Array Value} {e ev:TypeId} (hb:w.heap[b]? =some (.cells cur e (0,0))) (hv:w.heap[vb]? =some (.cells curv ev (0,0))) (hi:i < n) (hnc:n<=c) (hroom:c < n + 1)
  (hc:cur.size=c * 2) (hbig:(n + 1) * 16<=140737488355328) (hcv:2<=curv.size) (h1:∀v∈cur.toList.take (n * 2),v.oneCell'=true) (h1v:∀v∈curv.toList.take 2,v.oneCell'=true):
  Calls Tryz.prog 256 #[.slice (some ⟨b,0,none⟩) n c, .int .i64 i, .slice (some ⟨vb,0,none⟩) 1 vc] w fun x w'=>
   ∃(G:Nat) (R:List Value) (R1 R2:Array Value),n + 1<=G/\G<=maxLen/\R.length=G * 2/\R1=(R.take (i * 2) ++ curv.toList.take 2 ++ R.drop ((i + 1) * 2)).toArray/\R2=(R1.toList.take ((i + 1) * 2) ++ (cur.toList.take (n * 2)).drop (i * 2) ++ R1.toList.drop ((n + 1) * 2)).toArray/\R.take (i * 2)=cur.toList.take (i * 2)/\
   x= .returned (.slice (some ⟨w.heap.size,0,none⟩) (n + 1) G)/\w'=(((w.alloc (.cells R.toArray 119)).drew.setRow w.heap.size R1).drew).setRow w.heap.size R2:=by
 have t0:=Zp2;have t3:=Zp3;have t4:=Zp4;have tT:=Zp5;have sT:=Zp6;have iT:=Zwo;have ntm:=Zp7;have a3:∀w,(isAgg 3).run Tryz.prog w= .ok false w:=fun w=>by simp [isAgg,run_underlying t3]
 have a4:∀w,(isAgg 4).run Tryz.prog w= .ok false w:=fun w=>by simp [isAgg,run_underlying t4]
 have aT:∀w,(isAgg 36).run Tryz.prog w= .ok false w:=fun w=>by simp [isAgg,run_underlying tT]
 have u0:=run_underlying t0;have u3:=run_underlying t3;have u4:=run_underlying t4;have uT:=run_underlying tT;have mixed:=Zp8;obtain ⟨j0,hj0,hjz⟩:=ME.1 iT;simp only [Prod.mk.injEq,ME] at hjz;obtain ⟨⟨z0,hz0,hzc⟩,hzs,hzb⟩:=hjz;have hz2:¬((i:Int)=(n:Int)):=by omega
 have hz3:(c:Int) < (n:Int) + 1:=by omega
 have hin:i<=n:=by omega
 have hm63:n + 1<=maxLen:=by unfold maxLen;omega
 have hw1:IntKind.i64.wrap ((i:Int) + 1)=(i:Int) + 1:=by rw [IntKind.wrap_i64];omega
 have hb1:(0:Int)<=(i:Int) + 1:=by omega
 have htn:((i:Int) + 1).toNat=i + 1:=by omega
 have hbw:b < w.heap.size:=(Array.getElem?_eq_some_iff.1 hb).1;have hvw:vb < w.heap.size:=(Array.getElem?_eq_some_iff.1 hv).1;have hkk:(n:Int) + 1 - (i:Int)=((n + 1 - i:Nat):Int):=by omega
 have hik:i + (n + 1 - i)=n + 1:=by omega
 have hold:(Builtin.firstCells j0.size i (.slice (some ⟨b,0,none⟩) i c)).run Tryz.prog w.drew= .ok (cur.toList.take (i * 2)).toArray w.drew:=by
  rw [hzs];exact run_firstCells_some w.drew 2 i ⟨b,0,none⟩ i c (cur.toList.take (i * 2)) (by simp only [Uc,Ue,hc];omega) (fun j v hj=>by
   rw [Addr.add_lit];show w.cell? _=_;rw [JL hb];rw [UA] at hj;split at hj
   ·simpa using hj
   ·cases hj)
 have hrz:∀ty,(Builtin.append_ #[36,3] ty #[.slice (some ⟨b,0,none⟩) i c, .int .i64 ((n:Int) + 1 - (i:Int))]).run Tryz.prog w= .ok (.slice (some ⟨w.heap.size,0,none⟩) (n + 1) (grownCap w (n + 1) c 119)) (w.drew.alloc (.cells ((cur.toList.take (i * 2)).toArray ++ Builtin.zeroCells z0.cells (n + 1 - i) ++ Builtin.zeroCells z0.cells (grownCap w (n + 1) c 119 - (n + 1))) 119)):=fun ty=>by
  have h:=Lib.run_append_grow_zeros w 36 3 ty 119 j0 z0 .i64 .i64 tT t3 hj0 hz0 (some ⟨b,0,none⟩) i c (cur.toList.take (i * 2)) hold (n + 1 - i) (by omega) (by omega) (by omega) (by omega) (by rw [hzb];omega) (by rw [hzb,hik];exact growslice_fits hroom hbig);rw [hik] at h;rw [hkk];exact h
 have hGn:n + 1<=grownCap w (n + 1) c 119:=grownCap_ge w _ _ _;have hG63:grownCap w (n + 1) c 119<=maxLen:=grownCap_le_maxLen w (n + 1) c 119 hm63;generalize grownCap w (n + 1) c 119=G at hrz hGn hG63;obtain ⟨R,hR⟩:∃R:List Value,R.toArray=(cur.toList.take (i * 2)).toArray ++ Builtin.zeroCells z0.cells (n + 1 - i) ++ Builtin.zeroCells z0.cells (G - (n + 1)):=⟨((cur.toList.take (i * 2)).toArray ++ Builtin.zeroCells z0.cells (n + 1 - i) ++ Builtin.zeroCells z0.cells (G - (n + 1))).toList,by simp⟩
 rw [←hR] at hrz;have hRl:R.length=G * 2:=by
  have:=UC Array.size hR;simp only [UR,M0,size_zeroCells,hzc,Uc,Ue,hc] at this;rw [this];omega
 have hRt:R.take (i * 2)=cur.toList.take (i * 2):=by
  have:=UC Array.toList hR;simp only [M5,Uw] at this;rw [this];exact Fv (by simp only [Uc,Ue,hc];omega)
 obtain ⟨R1,hR1⟩:∃R1:Array Value,R1=(R.take (i * 2) ++ curv.toList.take 2 ++ R.drop ((i + 1) * 2)).toArray:=⟨_,rfl⟩
 obtain ⟨R2,hR2⟩:∃R2:Array Value,R2=(R1.toList.take ((i + 1) * 2) ++ (cur.toList.take (n * 2)).drop (i * 2) ++ R1.toList.drop ((n + 1) * 2)).toArray:=⟨_,rfl⟩
 have hl1:R1.size=G * 2:=by
  rw [hR1];simp only [UR,Uh,Uc,Uu,Ue,hRl];omega
 have hcpA:∀(W:World),W.heap=(w.alloc (.cells R.toArray 119)).heap->∀ty dc,(Builtin.copy_ #[36,36] ty #[.slice (some ⟨w.heap.size,i * 2,none⟩) (n + 1 - i) dc, .slice (some ⟨vb,0,none⟩) 1 vc]).run Tryz.prog W= .ok (goInt 1) (W.setRow w.heap.size R1):=fun W hW ty dc=>by
  have hm:Nat.min 1 (n + 1 - i)=1:=by simp only [Fl];split <;> omega
  have hN:W.heap[w.heap.size]? =some (.cells R.toArray 119 (0,0)):=by rw [hW];exact heap_alloc_new w _
  have hV:W.heap[vb]? =some (.cells curv ev (0,0)):=by rw [hW,heap_alloc_old w _ hvw];exact hv
  have:=Zaw (P:=Tryz.prog) W 36 36 ty 119 w.heap.size (i * 2) (n + 1 - i) dc ⟨vb,0,none⟩ 1 vc 2 R.toArray 119 (curv.toList.take 2) tT sT hN
   (by rw [hm];simp only [Uc,Ue];omega)
   (fun j v hj=>by
    rw [Addr.add_lit];rw [JL hV];rw [UA] at hj;split at hj
    ·simpa using hj
    ·cases hj)
   (by simp only [Uc,Ue,UR,hRl];omega)
   h1v
  have hlen:(curv.toList.take 2).length=2:=by simp only [Uc,Ue];omega
  rw [hm,hlen,show i * 2 + 2=(i + 1) * 2 by omega] at this;rw [this,hR1];rfl
 have hcpB:∀(W:World),W.heap=((w.alloc (.cells R.toArray 119)).setRow w.heap.size R1).heap->∀ty dc sc,(Builtin.copy_ #[36,36] ty #[.slice (some ⟨w.heap.size,(i + 1) * 2,none⟩) (n - i) dc, .slice (some ⟨b,i * 2,none⟩) (n - i) sc]).run Tryz.prog W= .ok (goInt ((n - i:Nat):Int)) (W.setRow w.heap.size R2):=fun W hW ty dc sc=>by
  have hm:Nat.min (n - i) (n - i)=n - i:=by simp only [Fl];split <;> omega
  have hN:W.heap[w.heap.size]? =some (.cells R1 119 (0,0)):=by rw [hW];exact setRow_heap _ _ R.toArray _ 119 _ (heap_alloc_new w _)
  have hV:W.heap[b]? =some (.cells cur e (0,0)):=by rw [hW,setRow_other _ _ b _ (by omega),heap_alloc_old w _ hbw];exact hb
  have:=Zaw (P:=Tryz.prog) W 36 36 ty 119 w.heap.size ((i + 1) * 2) (n - i) dc ⟨b,i * 2,none⟩ (n - i) sc 2 R1 119 ((cur.toList.take (n * 2)).drop (i * 2)) tT sT hN
   (by rw [hm];simp only [Uc,Uu,Ue,hc];omega)
   (fun j v hj=>by
    rw [Addr.add_lit];rw [JL hV];rw [US,UA] at hj;split at hj
    ·simpa using hj
    ·cases hj)
   (by simp only [Uc,Uu,Ue,hc,hl1];omega)
   (fun v hv=>h1 v (Mx hv))
  have hlen:((cur.toList.take (n * 2)).drop (i * 2)).length=(n - i) * 2:=by simp only [Uc,Uu,Ue,hc];omega
  rw [hm,hlen,show (i + 1) * 2 + (n - i) * 2=(n + 1) * 2 by omega] at this;rw [this,hR2]
 have Vq:Calls Tryz.prog 256 #[.slice (some ⟨b,0,none⟩) n c, .int .i64 i, .slice (some ⟨vb,0,none⟩) 1 vc] w fun x w'=>x= .returned (.slice (some ⟨w.heap.size,0,none⟩) (n + 1) G)/\w'=(((w.alloc (.cells R.toArray 119)).drew.setRow w.heap.size R1).drew).setRow w.heap.size R2:=by
  clear hkk hik hold hR hRl hRt hR1 hR2 hl1;generalize hRA:R.toArray=RA at hrz hcpA hcpB ⊢;have hGi:¬(G=i):=by omega
  have hGim:¬(G=i + 1):=by omega
  have hci:¬(c=i):=by omega
  have hG63':G<=9223372036854775807:=by unfold maxLen at hG63;omega
  go_enter Tryz.func256,ntm
  go_wp2_with (at_builtin;refine Lib.wpList_append_run _ rfl _ _ _ _ rfl _ _ rfl rfl _ _ (hrz _) ?_)
  rw [hcpA ((w.alloc (.cells RA 119)).drew) rfl 3 (G - i)]
  go_wp2
  go_region_law_o (refine step_copy_runI rfl _ _ 36 36 rfl (.slice (some ⟨w.heap.size,(i + 1) * 2,none⟩) (n - i) (G - (i + 1))) (.slice (some ⟨b,i * 2,none⟩) (n - i) (c - i)) (by simp [Act.eval,Act.put]) (by simp [Act.eval,Act.put]) (hcpB ((((w.alloc (.cells RA 119)).drew).setRow w.heap.size R1).drew) rfl 3 (G - (i + 1)) (c - i)) ?_)
  go_wp2
  go_ret
  exact ⟨rfl,rfl⟩
 exact Vq.mono fun x w' h=>⟨G,R,R1,R2,hGn,hG63,hRl,hR1,hR2,hRt,h.1,h.2⟩
set_option maxHeartbeats 4000000 in
set_option maxRecDepth 100000 in
theorem ZIM {w w':World} {A:Option Addr} {n c vb vc:Nat} {q:Value} (happ:∀ty,(Builtin.append_ #[36,36] ty #[.slice A n c, .slice (some ⟨vb,0,none⟩) 1 vc]).run Tryz.prog w= .ok q w') (hnc:n<=c) (hc63:c<=9223372036854775807):
  Calls Tryz.prog 256 #[.slice A n c, .int .i64 n, .slice (some ⟨vb,0,none⟩) 1 vc] w fun x w2=>x= .returned q/\w2=w':=by
 have t0:=Zp2;have t3:=Zp3;have t4:=Zp4;have tT:=Zp5;have sT:=Zp6;have ntm:=Zp7;have a3:∀w,(isAgg 3).run Tryz.prog w= .ok false w:=fun w=>by simp [isAgg,run_underlying t3]
 have a4:∀w,(isAgg 4).run Tryz.prog w= .ok false w:=fun w=>by simp [isAgg,run_underlying t4]
 have aT:∀w,(isAgg 36).run Tryz.prog w= .ok false w:=fun w=>by simp [isAgg,run_underlying tT]
 have u0:=run_underlying t0;have u3:=run_underlying t3;have u4:=run_underlying t4;have uT:=run_underlying tT;have mixed:=Zp8
 go_enter Tryz.func256,ntm
 cases A with
 |none=>
  go_wp2_with (at_builtin;refine Lib.wpList_append_run _ rfl _ _ _ _ rfl _ _ rfl rfl _ _ (happ _) ?_)
  all_goals (go_ret;exact ⟨rfl,rfl⟩)
 |some a=>
  obtain ⟨ab,ao,asp⟩:=a
  go_wp2_with (at_builtin;refine Lib.wpList_append_run _ rfl _ _ _ _ rfl _ _ rfl rfl _ _ (happ _) ?_)
  all_goals (go_ret;exact ⟨rfl,rfl⟩)
theorem ZIN:InsW Tryz.prog 256 36 119 2 16:=⟨ZIK,ZIL,ZIM⟩
end Go.Proofs.YthkckbidcpmckaaGreatDoor
